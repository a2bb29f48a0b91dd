/- Texts of this claim, joined (Form, RE1, Map, DelR, Gen, Beh, DrawV, DrawX, PR, Cd, DrawY, PR3, DrawZ, DrZ2, Vw9, EngQ, Vq0, VS, SlA, Byt, BytW, VCut, VBig). -/
import Derived.Test.YtckcojgfgcjamaaQ1
import Derived.Test.YtckcojgfgcjamaaQ2
import Derived.Test.YtckcojgfgcjamaaQ3
import Derived.Test.YtckcojgfgcjamaaQ4
import Derived.Test.YtckcojgfgcjamaaQ5
import Derived.Test.YtckcojgfgcjamaaQ6
import Derived.Test.YtckcojgfgcjamaaQ7
set_option maxRecDepth 100000
set_option linter.unusedSimpArgs false
set_option linter.unusedVariables false
namespace Go.Proofs.Ytckcojgfgcjamaa
open Go Go.RowKit
--@tbl l3Below = spec.l3Below
/-! Sorted tubes. -/
def insT (x : List Int) : List (List Int) → List (List Int)
  | [] => [x]
  | y :: l => if lexL x y = true then x :: y :: l else y :: insT x l
def srtT : List (List Int) → List (List Int)
  | [] => []
  | x :: l => insT x (srtT l)
theorem insT_perm (x : List Int) : ∀ l, (insT x l).Perm (x :: l)
  | [] => List.Perm.refl _
  | y :: l => by
    unfold insT
    split
    · exact List.Perm.refl _
    · exact (List.Perm.cons y (insT_perm x l)).trans (List.Perm.swap x y l)
theorem srtT_perm : ∀ l, (srtT l).Perm l
  | [] => List.Perm.refl _
  | x :: l => (insT_perm x (srtT l)).trans (List.Perm.cons x (srtT_perm l))
theorem insT_pw {w : Nat} {x : List Int} (hx : x.length = w) : ∀ {l : List (List Int)}, (∀ y ∈ l, y.length = w) → l.Pairwise (fun a b => lexL a b = true) → (insT x l).Pairwise (fun a b => lexL a b = true)
  | [], _, _ => by simp [insT]
  | y :: l, h, hp => by
    have hy := h y (List.mem_cons_self ..)
    rw [List.pairwise_cons] at hp
    unfold insT
    split
    · rename_i hxy
      rw [List.pairwise_cons]
      refine ⟨fun z hz => ?_, List.pairwise_cons.2 hp⟩
      rcases List.mem_cons.1 hz with rfl | hz
      · exact hxy
      · exact lexL_trans (by rw [hx, hy]) (by rw [hy, h z (List.mem_cons_of_mem _ hz)]) hxy (hp.1 z hz)
    · rename_i hxy
      have hyx := (lexL_total x y (by rw [hx, hy])).resolve_left hxy
      rw [List.pairwise_cons]
      refine ⟨fun z hz => ?_, insT_pw hx (fun z hz => h z (List.mem_cons_of_mem _ hz)) hp.2⟩
      rcases List.mem_cons.1 ((insT_perm x l).mem_iff.1 hz) with rfl | hz
      · exact hyx
      · exact hp.1 z hz
theorem srtT_pw {w : Nat} : ∀ {l : List (List Int)}, (∀ y ∈ l, y.length = w) → (srtT l).Pairwise (fun a b => lexL a b = true)
  | [], _ => List.Pairwise.nil
  | x :: l, h => insT_pw (h x (List.mem_cons_self ..)) (fun y hy => h y (List.mem_cons_of_mem _ ((srtT_perm l).mem_iff.1 hy))) (srtT_pw fun y hy => h y (List.mem_cons_of_mem _ hy))
def tubs (R : List Int) : List (List Int) := (List.range 6).map (tubeAt R)
theorem tubs_len {R : List Int} (hR : R.length = 24) : ∀ y ∈ tubs R, y.length = 4 := fun y hy => by
  obtain ⟨i, hi, rfl⟩ := List.mem_map.1 hy
  exact tubeAt_len hR (List.mem_range.1 hi)
theorem tubs_flat {R : List Int} (hR : R.length = 24) : (tubs R).flatten = R := by
  have h : ∀ m, m ≤ 6 → ((List.range m).map (tubeAt R)).flatten = R.take (m * 4) := fun m => by
    induction m with
    | zero => intro _; simp
    | succ m ih =>
      intro hm
      rw [List.range_succ, List.map_append, List.flatten_append, ih (by omega), show (m + 1) * 4 = m * 4 + 4 by omega, List.take_add]
      simp [tubeAt]
  have := h 6 (by omega)
  unfold tubs
  rw [this, List.take_of_length_le (by omega)]
def frm (R : List Int) : List Int := (srtT (tubs R)).flatten
/-- Another order of the tubes, sorted: the form. -/
theorem frm_of {R R' : List Int} (hR : R.length = 24) (hR' : R'.length = 24) (hp : (tubs R').Perm (tubs R)) (hs : (tubs R').Pairwise (fun a b => lexL a b = true)) : R' = frm R := by
  unfold frm
  rw [← lexL_one (tubs_len hR') (hp.trans (srtT_perm _).symm) hs (srtT_pw (tubs_len hR)), tubs_flat hR']
/-! Exchanges of tubes. -/
def putT (R : List Int) (k : Nat) (v : List Int) : List Int := R.take (k * 4) ++ v ++ R.drop (k * 4 + 4)
theorem putT_len {R v : List Int} {k : Nat} (hR : R.length = 24) (hv : v.length = 4) (hk : k < 6) : (putT R k v).length = 24 := by
  unfold putT
  rw [List.length_append, List.length_append, List.length_take, List.length_drop]; omega
theorem tubeAt_put {R v : List Int} {k q : Nat} (hR : R.length = 24) (hv : v.length = 4) (hk : k < 6) (hq : q < 6) : tubeAt (putT R k v) q = if q = k then v else tubeAt R q := by
  have l1 : (R.take (k * 4)).length = k * 4 := by rw [List.length_take]; omega
  unfold tubeAt putT
  by_cases h : q = k
  · subst h
    rw [if_pos rfl, List.append_assoc, List.drop_left' l1, List.take_left' hv]
  · rw [if_neg h]
    by_cases hlt : q < k
    · rw [List.append_assoc, List.drop_append_of_le_length (by omega), List.take_append_of_le_length (by rw [List.length_drop]; omega), List.drop_take, List.take_take, Nat.min_eq_left (by omega)]
    · obtain ⟨d, rfl⟩ : ∃ d, q = k + 1 + d := ⟨q - (k + 1), by omega⟩
      rw [show (k + 1 + d) * 4 = (k * 4 + 4) + d * 4 by omega, ← List.drop_drop, List.drop_left' (by rw [List.length_append, l1, hv]), List.drop_drop]
def swT (R : List Int) (k : Nat) : List Int := putT (putT R k (tubeAt R (k + 1))) (k + 1) (tubeAt R k)
theorem swT_len {R : List Int} {k : Nat} (hR : R.length = 24) (hk : k < 5) : (swT R k).length = 24 :=
  putT_len (putT_len hR (tubeAt_len hR (by omega)) (by omega)) (tubeAt_len hR (by omega)) (by omega)
theorem tubeAt_sw {R : List Int} {k q : Nat} (hR : R.length = 24) (hk : k < 5) (hq : q < 6) : tubeAt (swT R k) q = if q = k then tubeAt R (k + 1) else if q = k + 1 then tubeAt R k else tubeAt R q := by
  unfold swT
  rw [tubeAt_put (putT_len hR (tubeAt_len hR (by omega)) (by omega)) (tubeAt_len hR (by omega)) (by omega) hq, tubeAt_put hR (tubeAt_len hR (by omega)) (by omega) hq]
  by_cases h1 : q = k + 1
  · rw [if_pos h1, if_neg (by omega), if_pos h1]
  · rw [if_neg h1, if_neg h1]
theorem tubs_sw {R : List Int} {k : Nat} (hR : R.length = 24) (hk : k < 5) : (tubs (swT R k)).Perm (tubs R) := by
  have e : tubs (swT R k) = (List.range 6).map fun q => if q = k then tubeAt R (k + 1) else if q = k + 1 then tubeAt R k else tubeAt R q :=
    List.map_congr_left fun q hq => tubeAt_sw hR hk (List.mem_range.1 hq)
  rw [e]
  have r6 : List.range 6 = [0, 1, 2, 3, 4, 5] := rfl
  unfold tubs
  rw [r6]
  obtain rfl | rfl | rfl | rfl | rfl : k = 0 ∨ k = 1 ∨ k = 2 ∨ k = 3 ∨ k = 4 := by omega
  · exact List.Perm.swap ..
  · exact (List.Perm.swap ..).cons _
  · exact ((List.Perm.swap ..).cons _).cons _
  · exact (((List.Perm.swap ..).cons _).cons _).cons _
  · exact ((((List.Perm.swap ..).cons _).cons _).cons _).cons _
/-- What a bubble sort keeps, in round i at place k. -/
structure Bub (R0 R : List Int) (i k : Nat) : Prop where
  len : R.length = 24
  perm : (tubs R).Perm (tubs R0)
  tail : ∀ p q, p < q → q ≤ 5 → 6 - i ≤ q → lexL (tubeAt R p) (tubeAt R q) = true
  top : ∀ p, p < k → lexL (tubeAt R p) (tubeAt R k) = true
  fin : 5 - i ≤ k → ∀ p, p < 5 - i → lexL (tubeAt R p) (tubeAt R (5 - i)) = true
theorem Bub.start {R : List Int} (hR : R.length = 24) : Bub R R 0 0 := ⟨hR, List.Perm.refl _, fun p q h1 h2 h3 => by omega, fun p h => by omega, fun h => by omega⟩
theorem Bub.round {R0 R : List Int} {i : Nat} (h : Bub R0 R i 5) (hi : i < 6) : Bub R0 R (i + 1) 0 := by
  refine ⟨h.len, h.perm, fun p q h1 h2 h3 => ?_, fun p hp => by omega, fun h0 p hp => by omega⟩
  by_cases hq : 6 - i ≤ q
  · exact h.tail p q h1 h2 hq
  · obtain rfl : q = 5 - i := by omega
    exact h.fin (by omega) p h1
theorem Bub.swap {R0 R : List Int} {i k : Nat} (h : Bub R0 R i k) (hk : k < 5) (hc : lexC (tubeAt R (k + 1)) (tubeAt R k) < 0) : Bub R0 (swT R k) i (k + 1) := by
  have l4 := fun q (hq : q < 6) => tubeAt_len h.len hq
  have hl : lexL (tubeAt R (k + 1)) (tubeAt R k) = true := by
    simp only [lexL, Bool.not_eq_true', decide_eq_false_iff_not]
    intro h2
    have := lexC_trans (by rw [l4 k (by omega), l4 (k + 1) (by omega)]) (by rw [l4 k (by omega), l4 (k + 1) (by omega)]) h2 hc
    rw [lexC_refl] at this; omega
  have hnot : k + 1 < 6 - i := by
    rcases Nat.lt_or_ge (k + 1) (6 - i) with h1 | h1
    · exact h1
    · have := h.tail k (k + 1) (by omega) (by omega) h1
      simp only [lexL, Bool.not_eq_true', decide_eq_false_iff_not] at this
      exact absurd hc this
  have ts := fun q (hq : q < 6) => tubeAt_sw (k := k) h.len hk hq
  have htop : ∀ p, p < k + 1 → lexL (tubeAt (swT R k) p) (tubeAt (swT R k) (k + 1)) = true := fun p hp => by
    rw [ts p (by omega), ts (k + 1) (by omega), if_neg (by omega : ¬ k + 1 = k), if_pos (rfl : k + 1 = k + 1)]
    by_cases hpk : p = k
    · rw [if_pos hpk]; exact hl
    · rw [if_neg hpk, if_neg (by omega)]; exact h.top p (by omega)
  refine ⟨swT_len h.len hk, (tubs_sw h.len hk).trans h.perm, fun p q h1 h2 h3 => ?_, htop, fun h1 p hp => ?_⟩
  · rw [ts p (by omega), ts q (by omega), if_neg (by omega : ¬ q = k), if_neg (by omega : ¬ q = k + 1)]
    by_cases hp1 : p = k
    · rw [if_pos hp1]; exact h.tail (k + 1) q (by omega) h2 h3
    · rw [if_neg hp1]
      by_cases hp2 : p = k + 1
      · rw [if_pos hp2]; exact h.tail k q (by omega) h2 h3
      · rw [if_neg hp2]; exact h.tail p q h1 h2 h3
  · obtain h4 : 5 - i = k + 1 := by omega
    rw [h4]
    exact htop p (by omega)
theorem Bub.done {R0 R : List Int} {k : Nat} (hR : R0.length = 24) (h : Bub R0 R 6 k) : R = frm R0 := by
  refine frm_of hR h.len h.perm ?_
  unfold tubs
  rw [List.pairwise_map]
  have : (List.range 6).Pairwise (fun a b => a < b ∧ b < 6) := by decide
  exact this.imp fun {a b} hab => h.tail a b hab.1 (by omega) (by omega)
--@tbl l3Form = spec.l3Form
end Go.Proofs.Ytckcojgfgcjamaa
set_option maxRecDepth 100000
set_option linter.unusedSimpArgs false
set_option linter.unusedVariables false
namespace Go.Proofs.Ytckcojgfgcjamaa
open Go Go.RowKit
end Go.Proofs.Ytckcojgfgcjamaa
set_option maxRecDepth 100000
set_option linter.unusedSimpArgs false
set_option linter.unusedVariables false
namespace Go.Proofs.Ytckcojgfgcjamaa
open Go Go.RowKit
/-! Lists of racks. -/
/-! Maps that know racks. -/
/-! What is new. -/
end Go.Proofs.Ytckcojgfgcjamaa
set_option maxRecDepth 100000
set_option linter.unusedSimpArgs false
set_option linter.unusedVariables false
namespace Go.Proofs.Ytckcojgfgcjamaa
open Go Go.RowKit
end Go.Proofs.Ytckcojgfgcjamaa
set_option maxRecDepth 100000
set_option linter.unusedSimpArgs false
set_option linter.unusedVariables false
namespace Go.Proofs.Ytckcojgfgcjamaa
open Go Go.RowKit

/-- Names of a call's blocks among the caller's. -/
def ext (ρ : Nat → Nat) (n0 n : Nat) : Nat → Nat := fun k => if k < n0 then ρ k else n + (k - n0)
end Go.Proofs.Ytckcojgfgcjamaa
set_option maxRecDepth 100000
set_option linter.unusedSimpArgs false
set_option linter.unusedVariables false
namespace Go.Proofs.Ytckcojgfgcjamaa
open Go Go.RowKit
/-! Racks behind a rack. -/
end Go.Proofs.Ytckcojgfgcjamaa
set_option maxRecDepth 100000
set_option linter.unusedSimpArgs false
set_option linter.unusedVariables false
namespace Go.Proofs.Ytckcojgfgcjamaa
open Go Go.RowKit
/-- Two racks that are being drawn: A at p, R at q; zeros at n0 - 3 and n0 - 2. -/
structure FtS (c kc n0 : Nat) (H0 : Heap) (z : Nat) (A R : List Int) (p q k : Nat) (H : Heap) (n : Nat) : Prop where
  d : Drawn c kc 0 k n0 H0 H n
  lt : n0 ≤ p ∧ p < n ∧ n0 ≤ q ∧ q < n ∧ p ≠ q
  a : hget H p = some (.ints A 27)
  r : hget H q = some (.ints R 27)
  l : R.length = 24
  i : ∀ z ∈ R, In64 z
theorem FtS.draw {c kc n0 z p q k n k2 n2 : Nat} {H0 H H2 : Heap} {A R : List Int} (h : FtS c kc n0 H0 z A R p q k H n) (hd : Drawn c kc 0 k2 n0 H0 H2 n2) (hf : Fr n0 n H H2) (hn : n ≤ n2) : FtS c kc n0 H0 z A R p q k2 H2 n2 :=
  ⟨hd, by have := h.lt; omega, hf.use h.lt.1 h.lt.2.1 h.a, hf.use h.lt.2.2.1 h.lt.2.2.2.1 h.r, h.l, h.i⟩
theorem FtS.push {c kc n0 z p q k n : Nat} {H0 H : Heap} {A R : List Int} (h : FtS c kc n0 H0 z A R p q k H n) (hlt : c < n0 ∧ kc < n0 ∧ kc ≠ c) {L : List Int} {e : Nat} : FtS c kc n0 H0 z A R p q k ((n, .ints L e) :: H) (n + 1) :=
  ⟨h.d.pushI hlt, by have := h.lt; omega, by rw [hget_cons, if_neg (by have := h.lt; omega)]; exact h.a, by rw [hget_cons, if_neg (by have := h.lt; omega)]; exact h.r, h.l, h.i⟩
theorem FtS.put {c kc n0 z p q k n b : Nat} {H0 H : Heap} {A R : List Int} (h : FtS c kc n0 H0 z A R p q k H n) (hlt : c < n0 ∧ kc < n0 ∧ kc ≠ c) (hb : n0 ≤ b ∧ b < n ∧ b ≠ p ∧ b ≠ q) {L : List Int} {e : Nat} : FtS c kc n0 H0 z A R p q k ((b, .ints L e) :: H) n :=
  ⟨h.d.putI hlt hb.1 hb.2.1, h.lt, by rw [hget_cons, if_neg (by omega)]; exact h.a, by rw [hget_cons, if_neg (by omega)]; exact h.r, h.l, h.i⟩
theorem FtS.set {c kc n0 z p q k n : Nat} {H0 H : Heap} {A R R' : List Int} (h : FtS c kc n0 H0 z A R p q k H n) (hlt : c < n0 ∧ kc < n0 ∧ kc ≠ c) (hl : R'.length = 24) (hi : ∀ z ∈ R', In64 z) : FtS c kc n0 H0 z A R' p q k ((q, .ints R' 27) :: H) n :=
  ⟨h.d.putI hlt h.lt.2.2.1 h.lt.2.2.2.1, h.lt, by rw [hget_cons, if_neg (by have := h.lt; omega)]; exact h.a, by simp [hget_cons], hl, hi⟩
theorem FtS.more {c kc n0 z p q k k' n : Nat} {H0 H : Heap} {A R : List Int} (h : FtS c kc n0 H0 z A R p q k H n) (hk : k ≤ k') : FtS c kc n0 H0 z A R p q k' H n := ⟨h.d.more hk, h.lt, h.a, h.r, h.l, h.i⟩
end Go.Proofs.Ytckcojgfgcjamaa
set_option maxRecDepth 100000
set_option linter.unusedSimpArgs false
set_option linter.unusedVariables false
namespace Go.Proofs.Ytckcojgfgcjamaa
open Go Go.RowKit
/-- A rack at p, while another one is drawn. -/
structure BtS (c kc n0 : Nat) (H0 : Heap) (A : List Int) (p k : Nat) (H : Heap) (n : Nat) : Prop where
  d : Drawn c kc 0 k n0 H0 H n
  lt : n0 ≤ p ∧ p < n
  a : hget H p = some (.ints A 27)
theorem BtS.draw {c kc n0 p k n k2 n2 : Nat} {H0 H H2 : Heap} {A : List Int} (h : BtS c kc n0 H0 A p k H n) (hd : Drawn c kc 0 k2 n0 H0 H2 n2) (hf : Fr n0 n H H2) (hn : n ≤ n2) : BtS c kc n0 H0 A p k2 H2 n2 :=
  ⟨hd, by have := h.lt; omega, hf.use h.lt.1 h.lt.2 h.a⟩
theorem BtS.push {c kc n0 p k n : Nat} {H0 H : Heap} {A : List Int} (h : BtS c kc n0 H0 A p k H n) (hlt : c < n0 ∧ kc < n0 ∧ kc ≠ c) {L : List Int} {e : Nat} : BtS c kc n0 H0 A p k ((n, .ints L e) :: H) (n + 1) :=
  ⟨h.d.pushI hlt, by have := h.lt; omega, by rw [hget_cons, if_neg (by have := h.lt; omega)]; exact h.a⟩
theorem BtS.put {c kc n0 p k n b : Nat} {H0 H : Heap} {A : List Int} (h : BtS c kc n0 H0 A p k H n) (hlt : c < n0 ∧ kc < n0 ∧ kc ≠ c) (hb : n0 ≤ b ∧ b < n ∧ b ≠ p) {L : List Int} {e : Nat} : BtS c kc n0 H0 A p k ((b, .ints L e) :: H) n :=
  ⟨h.d.putI hlt hb.1 hb.2.1, h.lt, by rw [hget_cons, if_neg (by omega)]; exact h.a⟩
--@tbl DrawBackTo = spec.DrawBackTo
end Go.Proofs.Ytckcojgfgcjamaa
set_option maxRecDepth 100000
set_option linter.unusedSimpArgs false
set_option linter.unusedVariables false
namespace Go.Proofs.Ytckcojgfgcjamaa
open Go Go.RowKit
end Go.Proofs.Ytckcojgfgcjamaa
set_option maxRecDepth 100000
set_option linter.unusedSimpArgs false
set_option linter.unusedVariables false
namespace Go.Proofs.Ytckcojgfgcjamaa
open Go Go.RowKit
def cd1 : Code → Code
  | .seq a _ => a
  | c => c
def cd2 : Code → Code
  | .seq _ b => b
  | c => c
def cdN : Nat → Code → Code
  | 0, c => c
  | k + 1, c => cdN k (cd2 c)
/-- The first statements, and another code behind them. -/
def cdP : Nat → Code → Code → Code
  | 0, _, r => r
  | k + 1, .seq a b, r => .seq a (cdP k b r)
  | _ + 1, c, _ => c
theorem cd_cut {X : Cx} {p : Nat} {c a b : Code} {S : Env} {H : Heap} {n : Nat} {K : KE} (h : c = .seq a b) : codeVC X p c S H n K = codeVC X p a S H n (seqK (codeVC X p b) K) := by rw [h]; rfl
/-- The same slots below a number. -/
theorem sget_skip (t t' : Nat) (v : SV) (S : Env) (h : t ≠ t') : sget ((t', v) :: S) t = sget S t := by
  unfold sget
  rw [List.lookup_cons]
  have : (t == t') = false := by simpa using h
  rw [this]
end Go.Proofs.Ytckcojgfgcjamaa
set_option maxRecDepth 100000
set_option linter.unusedSimpArgs false
set_option linter.unusedVariables false
namespace Go.Proofs.Ytckcojgfgcjamaa
open Go Go.RowKit
/-- Counts that are being drawn, at p. -/
structure PcS (c kc n0 : Nat) (H0 : Heap) (C : List Int) (p k : Nat) (H : Heap) (n : Nat) : Prop where
  d : Drawn c kc 0 k n0 H0 H n
  lt : n0 ≤ p ∧ p < n
  o : hget H p = some (.ints C 29)
  l : C.length = 6
  i : ∀ z ∈ C, In64 z
theorem PcS.draw {c kc n0 p k n k2 n2 : Nat} {H0 H H2 : Heap} {C : List Int} (h : PcS c kc n0 H0 C p k H n) (hd : Drawn c kc 0 k2 n0 H0 H2 n2) (hf : Fr n0 n H H2) (hn : n ≤ n2) : PcS c kc n0 H0 C p k2 H2 n2 :=
  ⟨hd, by have := h.lt; omega, hf.use h.lt.1 h.lt.2 h.o, h.l, h.i⟩
theorem PcS.push {c kc n0 p k n : Nat} {H0 H : Heap} {C : List Int} (h : PcS c kc n0 H0 C p k H n) (hlt : c < n0 ∧ kc < n0 ∧ kc ≠ c) {L : List Int} {e : Nat} : PcS c kc n0 H0 C p k ((n, .ints L e) :: H) (n + 1) :=
  ⟨h.d.pushI hlt, by have := h.lt; omega, by rw [hget_cons, if_neg (by have := h.lt; omega)]; exact h.o, h.l, h.i⟩
theorem PcS.set {c kc n0 p k n : Nat} {H0 H : Heap} {C : List Int} (h : PcS c kc n0 H0 C p k H n) (hlt : c < n0 ∧ kc < n0 ∧ kc ≠ c) {j : Nat} {x : Int} (hx : In64 x) : PcS c kc n0 H0 (C.set j x) p k ((p, .ints (C.set j x) 29) :: H) n :=
  ⟨h.d.putI hlt h.lt.1 h.lt.2, h.lt, by simp [hget_cons], by rw [List.length_set]; exact h.l, in64_set h.i hx⟩
theorem PcS.more {c kc n0 p k k' n : Nat} {H0 H : Heap} {C : List Int} (h : PcS c kc n0 H0 C p k H n) (hk : k ≤ k') : PcS c kc n0 H0 C p k' H n := ⟨h.d.more hk, h.lt, h.o, h.l, h.i⟩
/-! Choices. -/
structure MiS (c kc n0 : Nat) (H0 : Heap) (R : List Int) (r b len cap : Nat) (C : List Int) (k : Nat) (H : Heap) (n : Nat) : Prop where
  d : Drawn c kc 0 k n0 H0 H n
  lt : n0 ≤ r ∧ r < n ∧ n0 ≤ b ∧ b < n ∧ r ≠ b
  r : hget H r = some (.ints R 27)
  rl : R.length = 24
  ri : ∀ z ∈ R, In64 z
  o : hget H b = some (.ints C 3)
  ml : C.length = cap
  lc : len ≤ cap
theorem MiS.draw {c kc n0 r b len cap k n k2 n2 : Nat} {H0 H H2 : Heap} {R C : List Int} (h : MiS c kc n0 H0 R r b len cap C k H n) (hd : Drawn c kc 0 k2 n0 H0 H2 n2) (hf : Fr n0 n H H2) (hn : n ≤ n2) : MiS c kc n0 H0 R r b len cap C k2 H2 n2 :=
  ⟨hd, by have := h.lt; omega, hf.use h.lt.1 h.lt.2.1 h.r, h.rl, h.ri, hf.use h.lt.2.2.1 h.lt.2.2.2.1 h.o, h.ml, h.lc⟩
theorem MiS.push {c kc n0 r b len cap k n : Nat} {H0 H : Heap} {R C : List Int} (h : MiS c kc n0 H0 R r b len cap C k H n) (hlt : c < n0 ∧ kc < n0 ∧ kc ≠ c) {L : List Int} {e : Nat} : MiS c kc n0 H0 R r b len cap C k ((n, .ints L e) :: H) (n + 1) :=
  ⟨h.d.pushI hlt, by have := h.lt; omega, by rw [hget_cons, if_neg (by have := h.lt; omega)]; exact h.r, h.rl, h.ri, by rw [hget_cons, if_neg (by have := h.lt; omega)]; exact h.o, h.ml, h.lc⟩
theorem MiS.more {c kc n0 r b len cap k k' n : Nat} {H0 H : Heap} {R C : List Int} (h : MiS c kc n0 H0 R r b len cap C k H n) (hk : k ≤ k') : MiS c kc n0 H0 R r b len cap C k' H n := ⟨h.d.more hk, h.lt, h.r, h.rl, h.ri, h.o, h.ml, h.lc⟩
/-! Lists of sources. -/
--@tbl DrawPourBacks = spec.DrawPourBacks
end Go.Proofs.Ytckcojgfgcjamaa
set_option maxRecDepth 100000
set_option linter.unusedSimpArgs false
set_option linter.unusedVariables false
namespace Go.Proofs.Ytckcojgfgcjamaa
open Go Go.RowKit
end Go.Proofs.Ytckcojgfgcjamaa
set_option maxRecDepth 100000
set_option linter.unusedSimpArgs false
set_option linter.unusedVariables false
namespace Go.Proofs.Ytckcojgfgcjamaa
open Go Go.RowKit
theorem in64_all {L : List Int} (h : ∀ k, k < L.length → In64 (L.getD k 0)) : ∀ z ∈ L, In64 z := fun z hz => by
  obtain ⟨k, hk, e⟩ := List.getElem_of_mem hz
  have := h k hk
  rw [List.getD_eq_getElem?_getD, List.getElem?_eq_getElem hk, e] at this
  exact this
theorem view_in {R : List Int} (hR : R.length = 24) (hr : rackB R = true) : I64 (viewF R) := in64_all fun k hk => by
  rw [viewF_len] at hk
  obtain ⟨v1, v2, _⟩ := viewF_ok hR hr
  by_cases h1 : k < 6
  · have := v1 k h1; unfold In64; omega
  · by_cases h2 : k < 12
    · have := v2 (k - 6) (by omega)
      rw [show 6 + (k - 6) = k by omega] at this
      unfold In64; omega
    · have e : (viewF R).getD k 0 = (ctL R).getD (k - 12) 0 := by
        rw [← viewF_drop]
        simp only [List.getD, List.getElem?_drop]
        rw [show 12 + (k - 12) = k by omega]
      rw [e]
      by_cases h0 : k - 12 = 0
      · rw [h0, ctL_zero]; unfold In64; omega
      · rw [ctL_get R (by omega)]
        have := cntL_bd R (k - 12)
        unfold In64; omega
theorem hget_same (k : Nat) (o : SObj) (H : Heap) : hget ((k, o) :: H) k = some o := by simp [hget_cons]
theorem set_len18 {V : List Int} {x : Int} (k : Nat) (h : V.length = 18) : (V.set k x).length = 18 := by rw [List.length_set]; exact h
theorem fnx_view7 : FnOK Try.prog 59 Try.f59 (Try.f59.body.getD .skip) [100, 61, 62] [] := ⟨Try.func59, rfl, by kernel_rfl, by kernel_rfl⟩
set_option maxHeartbeats 2000000 in
theorem view7_vc (c kc a m n : Nat) (H : Heap) (hC : CurH c kc a H) (hm : m ≤ c) (hmn : m ≤ n) (ha : a ≤ 985000) (hwH : hwf n H) :
    codeVC (⟨Try.prog, tys, [(51, l2Rack_F), (52, l7View_F)], [(100, rack_F), (61, pick_F), (62, among_F)], true, true, m, [100, 61, 62], []⟩ : Cx) n (Try.f59.body.getD .skip) (argS 0 [.ptr c 0]) H n
      (retK tys Try.f59.results.toList fun v H' n' => ∃ V : List Int, v = .arr V ∧ V.length = 18 ∧ I64 V ∧ Drawn c kc a 1006 n H H' n') := by
  have hlt := hC.lt hwH
  simp -implicitDefEqProofs only [Try.f59, Option.getD_some, argS, Nat.add_assoc, add_self, self_add, add_add, ZB, Int.reduceToNat, Nat.reduceLT, Nat.reduceLeDiff, Int.reduceLE, Int.reduceLT, Nat.reduceEqDiff, Nat.reduceSub, SB, SV.known, packR, ne_eq, reduceCtorEq, Nat.reduceEqDiff, ↓reduceIte, if_true, if_false, eq_self, Nat.reduceAdd, Nat.reduceMul, Nat.reduceSub, forall_const, oneCellS, litOne, flat1, Kd.isSca, flat, TYB]
  have d0 : Drawn c kc a 0 n H ((n + 1, .ints (List.replicate 18 0) 31) :: (n + 1, .ints (List.replicate 18 0) 31) :: (n, .ints (List.replicate 18 0) 31) :: H) (n + 2) := (((Drawn.start hC hwH).pushI hlt).pushI hlt).putI hlt (by omega) (by omega)
  refine ⟨by omega, rack_use d0 hlt (by omega) (by omega) (by omega) fun R H1 n1 hR hRi hd1 hle1 hf1 => ?_⟩
  have hb1 := hf1.use (by omega) (by omega) (show hget _ (n + 1) = some (.ints (List.replicate 18 0) 31) by simp [hget_cons])
  have hz1 := hf1.use (by omega) (by omega) (show hget _ n = some (.ints (List.replicate 18 0) 31) by simp [hget_cons])
  have tkR : R.take 24 = R := List.take_of_length_le (by omega)
  have hd2 := (hd1.pushI hlt (L := List.replicate 24 0) (e := 27)).putI hlt (L := R) (e := 27) (k0 := n1) (by omega) (by omega)
  have e1 : (n + 1 = n1) = False := by simp; omega
  have e2 : (n = n1) = False := by simp; omega
  simp -implicitDefEqProofs only [lk_normal, l2Rack_F, hR, tkR, e1, e2, Nat.add_assoc, add_self, self_add, add_add, ZB, Int.reduceToNat, Nat.reduceLT, Nat.reduceLeDiff, Int.reduceLE, Int.reduceLT, Nat.reduceEqDiff, Nat.reduceSub, SB, SV.known, packR, ne_eq, reduceCtorEq, Nat.reduceEqDiff, ↓reduceIte, if_true, if_false, eq_self, Nat.reduceAdd, Nat.reduceMul, Nat.reduceSub, forall_const, oneCellS, litOne, flat1, Kd.isSca, flat, TYB]
  cases hr : rackB R
  case' false =>
    have hb2 : hget ((n1, .ints R 27) :: (n1, .ints (List.replicate 24 0) 27) :: H1) (n + 1) = some (.ints (List.replicate 18 0) 31) := by rw [hget_cons, if_neg (by omega), hget_cons, if_neg (by omega)]; exact hb1
    have hz2 : hget ((n1, .ints R 27) :: (n1, .ints (List.replicate 24 0) 27) :: H1) n = some (.ints (List.replicate 18 0) 31) := by rw [hget_cons, if_neg (by omega), hget_cons, if_neg (by omega)]; exact hz1
    have hV : (List.replicate 18 (0 : Int)).length = 18 := by simp
    have hVi : I64 (List.replicate 18 (0 : Int)) := fun z hz => by rw [List.mem_replicate] at hz; rw [hz.2]; unfold In64; omega
    have hd3 := hd2
    simp -implicitDefEqProofs only [lk_normal, Nat.add_assoc, add_self, self_add, add_add, ZB, Int.reduceToNat, Nat.reduceLT, Nat.reduceLeDiff, Int.reduceLE, Int.reduceLT, Nat.reduceEqDiff, Nat.reduceSub, SB, SV.known, packR, ne_eq, reduceCtorEq, Nat.reduceEqDiff, ↓reduceIte, if_true, if_false, eq_self, Nat.reduceAdd, Nat.reduceMul, Nat.reduceSub, forall_const, oneCellS, litOne, flat1, Kd.isSca, flat, TYB]
    refine ⟨by omega, pick_use hd3 hlt (by omega) (by omega) fun x H4 x0 x1 hd4 hf4 => ?_⟩
  case' true =>
    have hV := viewF_len R
    have hVi := view_in hR hr
    have tkV : (viewF R).take 18 = viewF R := List.take_of_length_le (by omega)
    have dR : (List.replicate 18 (0 : Int)).drop 18 = [] := rfl
    have hb2 : hget ((n + 1, .ints (viewF R) 31) :: (n1, .ints R 27) :: (n1, .ints (List.replicate 24 0) 27) :: H1) (n + 1) = some (.ints (viewF R) 31) := by simp [hget_cons]
    have hz2 : hget ((n + 1, .ints (viewF R) 31) :: (n1, .ints R 27) :: (n1, .ints (List.replicate 24 0) 27) :: H1) n = some (.ints (List.replicate 18 0) 31) := by rw [hget_cons, if_neg (by omega), hget_cons, if_neg (by omega), hget_cons, if_neg (by omega)]; exact hz1
    have hd3 := hd2.putI hlt (L := viewF R) (e := 31) (k0 := n + 1) (by omega) (by omega)
    simp -implicitDefEqProofs only [lk_normal, l7View_F, hR, hr, tkR, hV, tkV, dR, List.append_nil, hb1, e1, e2, Nat.add_assoc, add_self, self_add, add_add, ZB, Int.reduceToNat, Nat.reduceLT, Nat.reduceLeDiff, Int.reduceLE, Int.reduceLT, Nat.reduceEqDiff, Nat.reduceSub, SB, SV.known, packR, ne_eq, reduceCtorEq, Nat.reduceEqDiff, ↓reduceIte, if_true, if_false, eq_self, Nat.reduceAdd, Nat.reduceMul, Nat.reduceSub, forall_const, oneCellS, litOne, flat1, Kd.isSca, flat, TYB]
    refine ⟨by omega, by omega, pick_use hd3 hlt (by omega) (by omega) fun x H4 x0 x1 hd4 hf4 => ?_⟩
  all_goals
    have hb4 := hf4.use (by omega) (by omega) hb2
    have hz4 := hf4.use (by omega) (by omega) hz2
    have tkV := List.take_of_length_le (Nat.le_of_eq hV)
    have dz : (List.replicate 18 (0 : Int)).drop 18 = [] := rfl
    have e3 : (n = n + 1) = False := by simp
    have fin : ∀ (V : List Int) (k : Nat) H' n', V.length = 18 → I64 V → Drawn c kc a k n H H' n' → k ≤ 1006 → n + 2 ≤ n' → ∃ W : List Int, V = W ∧ W.length = 18 ∧ I64 W ∧ Drawn c kc a 1006 n H ((n, .ints V 31) :: H') n' := fun V k H' n' h1 h2 h3 h4 h5 => ⟨V, rfl, h1, h2, (h3.more h4).putI hlt (by omega) (by omega)⟩
    rcases (show x = 0 ∨ x = 1 ∨ x = 2 ∨ (¬ x = 0 ∧ ¬ x = 1 ∧ ¬ x = 2) by omega) with rfl | rfl | rfl | ⟨y0, y1, y2⟩
    rotate_left 3
    · simp -implicitDefEqProofs only [lk_normal, y0, y1, y2, hb4, hz4, hV, tkV, dz, List.append_nil, e3, Nat.add_assoc, add_self, self_add, add_add, ZB, Int.reduceToNat, Nat.reduceLT, Nat.reduceLeDiff, Int.reduceLE, Int.reduceLT, Nat.reduceEqDiff, Nat.reduceSub, SB, SV.known, packR, ne_eq, reduceCtorEq, Nat.reduceEqDiff, ↓reduceIte, if_true, if_false, eq_self, Nat.reduceAdd, Nat.reduceMul, Nat.reduceSub, forall_const, oneCellS, litOne, flat1, Kd.isSca, flat, TYB]
      exact ⟨by omega, fin _ _ _ _ hV hVi hd4 (by omega) (by omega)⟩
    all_goals
      simp -implicitDefEqProofs only [lk_normal, Int.reduceEq, Nat.add_assoc, add_self, self_add, add_add, ZB, Int.reduceToNat, Nat.reduceLT, Nat.reduceLeDiff, Int.reduceLE, Int.reduceLT, Nat.reduceEqDiff, Nat.reduceSub, SB, SV.known, packR, ne_eq, reduceCtorEq, Nat.reduceEqDiff, ↓reduceIte, if_true, if_false, eq_self, Nat.reduceAdd, Nat.reduceMul, Nat.reduceSub, forall_const, oneCellS, litOne, flat1, Kd.isSca, flat, TYB]
      refine pick_use hd4 hlt (by omega) (by omega) fun q H5 q0 q1 hd5 hf5 => ?_
      have q6 : q < 6 := by omega
      obtain ⟨Q, rfl⟩ : ∃ Q : Nat, q = Q := ⟨q.toNat, by omega⟩
      have Q6 : Q < 6 := by omega
      simp -implicitDefEqProofs only [lk_normal, Nat.add_assoc, add_self, self_add, add_add, ZB, Int.reduceToNat, Nat.reduceLT, Nat.reduceLeDiff, Int.reduceLE, Int.reduceLT, Nat.reduceEqDiff, Nat.reduceSub, SB, SV.known, packR, ne_eq, reduceCtorEq, Nat.reduceEqDiff, ↓reduceIte, if_true, if_false, eq_self, Nat.reduceAdd, Nat.reduceMul, Nat.reduceSub, forall_const, oneCellS, litOne, flat1, Kd.isSca, flat, TYB]
      refine among_use (hd5.pushI hlt) hlt (by omega) (by omega) (hget_same _ _ _) (by omega) (by simp) fun y H6 hy hd6 hf6 => ?_
      have hyI : In64 y := by simp [List.replicate] at hy; unfold In64; omega
      have hb5 := hf5.use (by omega) (by omega) hb4
      have hz5 := hf5.use (by omega) (by omega) hz4
      have hb6 := hf6.use (j := n + 1) (by omega) (by omega) (by rw [hget_cons, if_neg (by omega)]; exact hb5)
      have hz6 := hf6.use (j := n) (by omega) (by omega) (by rw [hget_cons, if_neg (by omega)]; exact hz5)
      have p1 : Q < 18 := by omega
      have p2 : 6 + Q < 18 := by omega
      have p3 : 12 + Q < 18 := by omega
      have ls := fun k => set_len18 (x := y) k hV
      have tks := fun k => List.take_of_length_le (Nat.le_of_eq (ls k))
      simp -implicitDefEqProofs only [lk_normal, hb6, hz6, q0, q6, p1, p2, p3, hV, ls, tks, dz, List.append_nil, e3, Nat.add_assoc, add_self, self_add, add_add, ZB, Int.reduceToNat, Nat.reduceLT, Nat.reduceLeDiff, Int.reduceLE, Int.reduceLT, Nat.reduceEqDiff, Nat.reduceSub, SB, SV.known, packR, ne_eq, reduceCtorEq, Nat.reduceEqDiff, ↓reduceIte, if_true, if_false, eq_self, Nat.reduceAdd, Nat.reduceMul, Nat.reduceSub, forall_const, oneCellS, litOne, flat1, Kd.isSca, flat, TYB]
      exact ⟨by omega, by omega, fin _ _ _ _ (ls _) (in64_set hVi hyI) (hd6.putI hlt (by omega) (by omega)) (by omega) (by omega)⟩
def view7_F : List SV → Heap → Nat → Nat → K1 → Prop
  | [.ptr c 0], H, n, m, κ => ∃ kc a, CurH c kc a H ∧ m ≤ c ∧ m ≤ n ∧ a ≤ 985000 ∧ ∀ (V : List Int) H' n', V.length = 18 → I64 V → Drawn c kc a 1006 n H H' n' → κ (.arr V) H' n'
  | _, _, _, _, _ => False
theorem view7_T : ∀ args H n m κ, view7_F args H n m κ → GenOK Try.prog 59 args H n m κ := by
  intro args H n m κ h
  unfold view7_F at h
  split at h
  · rename_i c
    obtain ⟨kc, a, hC, hm, hmn, ha, h1⟩ := h
    exact gen_direct (X := (⟨Try.prog, tys, [(51, l2Rack_F), (52, l7View_F)], [(100, rack_F), (61, pick_F), (62, among_F)], true, true, m, [100, 61, 62], []⟩ : Cx)) fnx_view7 ⟨tys_ok, .cons l2Rack_T (.cons l7View_T .nil), .cons rack_T (.cons pick_T (.cons among_T .nil)), mixed⟩ rfl (Nat.le_of_ble_eq_true rfl) (fun hwH hwa => view7_vc c kc a m n H hC hm hmn ha hwH) fun hwH v H' n' hψ h3 h4 h5 => by
      obtain ⟨V, rfl, g1, g2, g3⟩ := hψ
      exact h1 V H' n' g1 g2 g3
  · exact h.elim
theorem view7_use {c kc a k n0 n m : Nat} {H0 H : Heap} {κ : K1} (h : Drawn c kc a k n0 H0 H n) (hc : c < n0 ∧ kc < n0 ∧ kc ≠ c) (hm : m ≤ c) (hmn : m ≤ n) (ha : a + k ≤ 985000)
    (hκ : ∀ (V : List Int) H' n', V.length = 18 → I64 V → Drawn c kc a (k + 1006) n0 H0 H' n' → n ≤ n' → Fr n0 n H H' → κ (.arr V) H' n') : view7_F [.ptr c 0] H n m κ := by
  obtain ⟨b', g1, g2, g3⟩ := h.cur
  exact ⟨kc, b', g3, hm, hmn, by omega, fun V H' n' h1 h2 hd => hκ V H' n' h1 h2 (h.trans hd g2 g1) hd.le (hd.own hc.1)⟩
def DrawCanPourAt_F : List SV → Heap → Nat → Nat → K1 → Prop
  | [cv], H, n, m, κ => BytA cv H ∧ m ≤ n ∧ ∀ (V : List Int) (x y : Int) H' n', V.length = 18 → I64 V → In64 x → In64 y → Kpt n H H' n' → κ (.tup [.arr V, .int x, .int y]) H' n'
  | _, _, _, _, _ => False
/-! A rack and a pour. -/
/-! A view that can be sorted. -/
end Go.Proofs.Ytckcojgfgcjamaa
set_option maxRecDepth 100000
set_option linter.unusedSimpArgs false
set_option linter.unusedVariables false
namespace Go.Proofs.Ytckcojgfgcjamaa
open Go Go.RowKit
/-! A color, or nearly one. -/
theorem fnx_color : FnOK Try.prog 70 Try.f70 (Try.f70.body.getD .skip) [60, 61, 62] [] := ⟨Try.func70, rfl, by kernel_rfl, by kernel_rfl⟩
theorem color_vc (c kc a m n : Nat) (H : Heap) (hC : CurH c kc a H) (hm : m ≤ c) (hmn : m ≤ n) (ha : a ≤ 990000) (hwH : hwf n H) :
    codeVC (⟨Try.prog, tys, [], [(60, one_F), (61, pick_F), (62, among_F)], true, true, m, [60, 61, 62], []⟩ : Cx) n (Try.f70.body.getD .skip) (argS 0 [.ptr c 0]) H n
      (retK tys Try.f70.results.toList fun v H' n' => ∃ x : Int, v = .int x ∧ In64 x ∧ Drawn c kc a 10 n H H' n') := by
  have hlt := hC.lt hwH
  simp -implicitDefEqProofs only [Try.f70, Option.getD_some, argS, Nat.add_assoc, add_self, self_add, add_add, ZB, Int.reduceToNat, Nat.reduceLT, Nat.reduceLeDiff, Int.reduceLE, Int.reduceLT, Nat.reduceEqDiff, Nat.reduceSub, SB, SV.known, packR, ne_eq, reduceCtorEq, Nat.reduceEqDiff, ↓reduceIte, if_true, if_false, eq_self, Nat.reduceAdd, Nat.reduceMul, Nat.reduceSub, forall_const, oneCellS, litOne, flat1, Kd.isSca, flat, TYB]
  have d0 := Drawn.start hC hwH
  refine one_use d0 hlt hm (by omega) fun o H1 hd1 hf1 => ?_
  cases o
  · simp -implicitDefEqProofs only [lk_normal, Nat.add_assoc, add_self, self_add, add_add, ZB, Int.reduceToNat, Nat.reduceLT, Nat.reduceLeDiff, Int.reduceLE, Int.reduceLT, Nat.reduceEqDiff, Nat.reduceSub, SB, SV.known, packR, ne_eq, reduceCtorEq, Nat.reduceEqDiff, ↓reduceIte, if_true, if_false, eq_self, Nat.reduceAdd, Nat.reduceMul, Nat.reduceSub, forall_const, oneCellS, litOne, flat1, Kd.isSca, flat, TYB]
    refine among_use (hd1.pushI hlt) hlt (by omega) (by omega) (hget_same _ _ _) (by omega) (by simp) fun y H2 hy hd2 hf2 => ?_
    have hyI : 0 ≤ y ∧ y ≤ 5 := by simp [List.replicate] at hy; omega
    simp -implicitDefEqProofs only [lk_normal, Nat.add_assoc, add_self, self_add, add_add, ZB, Int.reduceToNat, Nat.reduceLT, Nat.reduceLeDiff, Int.reduceLE, Int.reduceLT, Nat.reduceEqDiff, Nat.reduceSub, SB, SV.known, packR, ne_eq, reduceCtorEq, Nat.reduceEqDiff, ↓reduceIte, if_true, if_false, eq_self, Nat.reduceAdd, Nat.reduceMul, Nat.reduceSub, forall_const, oneCellS, litOne, flat1, Kd.isSca, flat, TYB]
    refine pick_use hd2 hlt (by omega) (by omega) fun q H3 q0 q1 hd3 hf3 => ?_
    have i1 : In64 (1 + q) := by unfold In64; omega
    simp -implicitDefEqProofs only [lk_normal, i1, Nat.add_assoc, add_self, self_add, add_add, ZB, Int.reduceToNat, Nat.reduceLT, Nat.reduceLeDiff, Int.reduceLE, Int.reduceLT, Nat.reduceEqDiff, Nat.reduceSub, SB, SV.known, packR, ne_eq, reduceCtorEq, Nat.reduceEqDiff, ↓reduceIte, if_true, if_false, eq_self, Nat.reduceAdd, Nat.reduceMul, Nat.reduceSub, forall_const, oneCellS, litOne, flat1, Kd.isSca, flat, TYB]
    exact ⟨_, rfl, i1, hd3.more (by omega)⟩
  · simp -implicitDefEqProofs only [lk_normal, Nat.add_assoc, add_self, self_add, add_add, ZB, Int.reduceToNat, Nat.reduceLT, Nat.reduceLeDiff, Int.reduceLE, Int.reduceLT, Nat.reduceEqDiff, Nat.reduceSub, SB, SV.known, packR, ne_eq, reduceCtorEq, Nat.reduceEqDiff, ↓reduceIte, if_true, if_false, eq_self, Nat.reduceAdd, Nat.reduceMul, Nat.reduceSub, forall_const, oneCellS, litOne, flat1, Kd.isSca, flat, TYB]
    refine among_use (hd1.pushI hlt) hlt (by omega) (by omega) (hget_same _ _ _) (by omega) (by simp) fun y H2 hy hd2 hf2 => ?_
    have hyI : In64 y := by simp [List.replicate] at hy; unfold In64; omega
    simp -implicitDefEqProofs only [lk_normal, Nat.add_assoc, add_self, self_add, add_add, ZB, Int.reduceToNat, Nat.reduceLT, Nat.reduceLeDiff, Int.reduceLE, Int.reduceLT, Nat.reduceEqDiff, Nat.reduceSub, SB, SV.known, packR, ne_eq, reduceCtorEq, Nat.reduceEqDiff, ↓reduceIte, if_true, if_false, eq_self, Nat.reduceAdd, Nat.reduceMul, Nat.reduceSub, forall_const, oneCellS, litOne, flat1, Kd.isSca, flat, TYB]
    exact ⟨_, rfl, hyI, hd2.more (by omega)⟩
def color_F : List SV → Heap → Nat → Nat → K1 → Prop
  | [.ptr c 0], H, n, m, κ => ∃ kc a, CurH c kc a H ∧ m ≤ c ∧ m ≤ n ∧ a ≤ 990000 ∧ ∀ (x : Int) H' n', In64 x → Drawn c kc a 10 n H H' n' → κ (.int x) H' n'
  | _, _, _, _, _ => False
theorem color_T : ∀ args H n m κ, color_F args H n m κ → GenOK Try.prog 70 args H n m κ := by
  intro args H n m κ h
  unfold color_F at h
  split at h
  · rename_i c
    obtain ⟨kc, a, hC, hm, hmn, ha, h1⟩ := h
    exact gen_direct (X := (⟨Try.prog, tys, [], [(60, one_F), (61, pick_F), (62, among_F)], true, true, m, [60, 61, 62], []⟩ : Cx)) fnx_color ⟨tys_ok, .nil, .cons one_T (.cons pick_T (.cons among_T .nil)), mixed⟩ rfl (Nat.le_of_ble_eq_true rfl) (fun hwH hwa => color_vc c kc a m n H hC hm hmn ha hwH) fun hwH v H' n' hψ h3 h4 h5 => by
      obtain ⟨x, rfl, g1, g2⟩ := hψ
      exact h1 x H' n' g1 g2
  · exact h.elim
theorem color_use {c kc a k n0 n m : Nat} {H0 H : Heap} {κ : K1} (h : Drawn c kc a k n0 H0 H n) (hc : c < n0 ∧ kc < n0 ∧ kc ≠ c) (hm : m ≤ c) (hmn : m ≤ n) (ha : a + k ≤ 990000)
    (hκ : ∀ (x : Int) H' n', In64 x → Drawn c kc a (k + 10) n0 H0 H' n' → n ≤ n' → Fr n0 n H H' → κ (.int x) H' n') : color_F [.ptr c 0] H n m κ := by
  obtain ⟨b', g1, g2, g3⟩ := h.cur
  exact ⟨kc, b', g3, hm, hmn, by omega, fun x H' n' h1 hd => hκ x H' n' h1 (h.trans hd g2 g1) hd.le (hd.own hc.1)⟩
/-! A view, a place and a color. -/
theorem fnx_DrawChanceBelow : FnOK Try.prog 21 Try.f21 (Try.f21.body.getD .skip) [59, 69, 70] [] := ⟨Try.func21, rfl, by kernel_rfl, by kernel_rfl⟩
set_option maxHeartbeats 1000000 in
theorem DrawChanceBelow_vc (cv : SV) (m n : Nat) (H : Heap) (hB : BytA cv H) (hmn : m ≤ n) (hwH : hwf n H) :
    codeVC (⟨Try.prog, tys, [], [(59, view7_F), (69, place_F), (70, color_F)], true, true, m, [59, 69, 70], []⟩ : Cx) n (Try.f21.body.getD .skip) (argS 0 [cv]) H n (retK tys Try.f21.results.toList fun v H' n' => ∃ (V : List Int) (x y : Int), v = .tup [.arr V, .int x, .int y] ∧ V.length = 18 ∧ I64 V ∧ In64 x ∧ In64 y ∧ Kpt n H H' n') := by
  have hB' := hB
  have dz : (List.replicate 18 (0 : Int)).drop 18 = [] := rfl
  rcases hB with rfl | ⟨kc0, off0, len0, cap0, L0, rfl, hh0⟩
  all_goals
    simp -implicitDefEqProofs only [Try.f21, Option.getD_some, argS, Nat.add_assoc, add_self, self_add, add_add, ZB, Int.reduceToNat, Nat.reduceLT, Nat.reduceLeDiff, Int.reduceLE, Int.reduceLT, Nat.reduceEqDiff, Nat.reduceSub, SB, SV.known, packR, ne_eq, reduceCtorEq, Nat.reduceEqDiff, ↓reduceIte, if_true, if_false, eq_self, Nat.reduceAdd, Nat.reduceMul, Nat.reduceSub, forall_const, oneCellS, litOne, flat1, Kd.isSca, flat, TYB]
    have hw1 : hwf (n + 1) ((n, .ints (List.replicate 18 0) 31) :: H) := hwf_cons (hwf_mono (by omega) hwH) (Nat.lt_succ_self n) trivial
    obtain ⟨kc, hlt, d0⟩ := cur_new (hB'.put hwH (Nat.le_refl n) (.ints (List.replicate 18 0) 31)) hw1 (Nat.lt_succ_self n) ⟨_, by simp [hget_cons]; rfl⟩
    obtain ⟨Hs, d0, fr0, z0⟩ : ∃ Hs, Drawn (n + 1) kc 0 0 (n + 1 + 1) Hs _ (n + 1 + 1) ∧ (∀ i o, i < n → hget H i = some o → hget Hs i = some o) ∧ hget Hs n = some (.ints (List.replicate 18 0) 31) := ⟨_, d0, fun i o hi ho => by (repeat rw [hget_cons, if_neg (by omega)]); exact ho, by simp [hget_cons] <;> omega⟩
    refine view7_use d0 hlt (by omega) (by omega) (by omega) fun V Hv nv hV hVi hdv hlev hfv => ?_
    have tkV := List.take_of_length_le (Nat.le_of_eq hV)
    simp -implicitDefEqProofs only [lk_normal, Nat.add_assoc, add_self, self_add, add_add, ZB, Int.reduceToNat, Nat.reduceLT, Nat.reduceLeDiff, Int.reduceLE, Int.reduceLT, Nat.reduceEqDiff, Nat.reduceSub, SB, SV.known, packR, ne_eq, reduceCtorEq, Nat.reduceEqDiff, ↓reduceIte, if_true, if_false, eq_self, Nat.reduceAdd, Nat.reduceMul, Nat.reduceSub, forall_const, oneCellS, litOne, flat1, Kd.isSca, flat, TYB]
    refine place_use hdv hlt (by omega) (by omega) fun x Hx nx hx hdx hlex hfx => ?_
    simp -implicitDefEqProofs only [lk_normal, Nat.add_assoc, add_self, self_add, add_add, ZB, Int.reduceToNat, Nat.reduceLT, Nat.reduceLeDiff, Int.reduceLE, Int.reduceLT, Nat.reduceEqDiff, Nat.reduceSub, SB, SV.known, packR, ne_eq, reduceCtorEq, Nat.reduceEqDiff, ↓reduceIte, if_true, if_false, eq_self, Nat.reduceAdd, Nat.reduceMul, Nat.reduceSub, forall_const, oneCellS, litOne, flat1, Kd.isSca, flat, TYB]
    refine color_use hdx hlt (by omega) (by omega) (by omega) fun y Hy ny hy hdy hley hfy => ?_
    have hzy := hdy.fr n _ (by omega) (by omega) z0
    simp -implicitDefEqProofs only [lk_normal, hzy, hV, tkV, dz, List.append_nil, Nat.add_assoc, add_self, self_add, add_add, ZB, Int.reduceToNat, Nat.reduceLT, Nat.reduceLeDiff, Int.reduceLE, Int.reduceLT, Nat.reduceEqDiff, Nat.reduceSub, SB, SV.known, packR, ne_eq, reduceCtorEq, Nat.reduceEqDiff, ↓reduceIte, if_true, if_false, eq_self, Nat.reduceAdd, Nat.reduceMul, Nat.reduceSub, forall_const, oneCellS, litOne, flat1, Kd.isSca, flat, TYB]
    exact ⟨by omega, V, x, y, ⟨rfl, rfl, rfl⟩, hV, hVi, hx, hy, by omega, hwf_cons hdy.wf (by omega) trivial, fun i o hi ho => by
      rw [hget_cons, if_neg (by omega)]
      exact hdy.fr i o (by omega) (by omega) (fr0 i o hi ho)⟩
--@tbl DrawChanceBelow = spec.DrawChanceBelow
def DrawChanceBelow_F := DrawCanPourAt_F
theorem DrawChanceBelow_T : ∀ args H n m κ, DrawChanceBelow_F args H n m κ → GenOK Try.prog 21 args H n m κ := by
  intro args H n m κ h
  unfold DrawChanceBelow_F DrawCanPourAt_F at h
  split at h
  · rename_i cv
    obtain ⟨hB, hmn, h1⟩ := h
    exact gen_direct (X := (⟨Try.prog, tys, [], [(59, view7_F), (69, place_F), (70, color_F)], true, true, m, [59, 69, 70], []⟩ : Cx)) fnx_DrawChanceBelow ⟨tys_ok, .nil, .cons view7_T (.cons place_T (.cons color_T .nil)), mixed⟩ rfl (Nat.le_of_ble_eq_true rfl) (fun hwH hwa => DrawChanceBelow_vc cv m n H hB hmn hwH) fun hwH v H' n' hψ h3 h4 h5 => by
      obtain ⟨V, x, y, rfl, g1, g2, g3, g4, g5⟩ := hψ
      exact h1 V x y H' n' g1 g2 g3 g4 g5
  · exact h.elim
theorem drawCB_use {cv : SV} {H : Heap} {n m : Nat} {κ : K1} (h1 : BytA cv H) (h2 : m ≤ n) (h3 : ∀ (V : List Int) (x y : Int) H' n', V.length = 18 → I64 V → In64 x → In64 y → Kpt n H H' n' → κ (.tup [.arr V, .int x, .int y]) H' n') : DrawChanceBelow_F [cv] H n m κ := ⟨h1, h2, h3⟩
/-! A view, a place and a number. -/
theorem fnx_DrawChanceTop : FnOK Try.prog 24 Try.f24 (Try.f24.body.getD .skip) [59, 69, 61, 62] [] := ⟨Try.func24, rfl, by kernel_rfl, by kernel_rfl⟩
set_option maxHeartbeats 1000000 in
theorem DrawChanceTop_vc (cv : SV) (m n : Nat) (H : Heap) (hB : BytA cv H) (hmn : m ≤ n) (hwH : hwf n H) :
    codeVC (⟨Try.prog, tys, [], [(59, view7_F), (69, place_F), (61, pick_F), (62, among_F)], true, true, m, [59, 69, 61, 62], []⟩ : Cx) n (Try.f24.body.getD .skip) (argS 0 [cv]) H n (retK tys Try.f24.results.toList fun v H' n' => ∃ (V : List Int) (x y : Int), v = .tup [.arr V, .int x, .int y] ∧ V.length = 18 ∧ I64 V ∧ In64 x ∧ In64 y ∧ Kpt n H H' n') := by
  have hB' := hB
  have dz : (List.replicate 18 (0 : Int)).drop 18 = [] := rfl
  rcases hB with rfl | ⟨kc0, off0, len0, cap0, L0, rfl, hh0⟩
  all_goals
    simp -implicitDefEqProofs only [Try.f24, Option.getD_some, argS, Nat.add_assoc, add_self, self_add, add_add, ZB, Int.reduceToNat, Nat.reduceLT, Nat.reduceLeDiff, Int.reduceLE, Int.reduceLT, Nat.reduceEqDiff, Nat.reduceSub, SB, SV.known, packR, ne_eq, reduceCtorEq, Nat.reduceEqDiff, ↓reduceIte, if_true, if_false, eq_self, Nat.reduceAdd, Nat.reduceMul, Nat.reduceSub, forall_const, oneCellS, litOne, flat1, Kd.isSca, flat, TYB]
    have hw1 : hwf (n + 1) ((n, .ints (List.replicate 18 0) 31) :: H) := hwf_cons (hwf_mono (by omega) hwH) (Nat.lt_succ_self n) trivial
    obtain ⟨kc, hlt, d0⟩ := cur_new (hB'.put hwH (Nat.le_refl n) (.ints (List.replicate 18 0) 31)) hw1 (Nat.lt_succ_self n) ⟨_, by simp [hget_cons]; rfl⟩
    obtain ⟨Hs, d0, fr0, z0⟩ : ∃ Hs, Drawn (n + 1) kc 0 0 (n + 1 + 1) Hs _ (n + 1 + 1) ∧ (∀ i o, i < n → hget H i = some o → hget Hs i = some o) ∧ hget Hs n = some (.ints (List.replicate 18 0) 31) := ⟨_, d0, fun i o hi ho => by (repeat rw [hget_cons, if_neg (by omega)]); exact ho, by simp [hget_cons] <;> omega⟩
    refine view7_use d0 hlt (by omega) (by omega) (by omega) fun V Hv nv hV hVi hdv hlev hfv => ?_
    have tkV := List.take_of_length_le (Nat.le_of_eq hV)
    simp -implicitDefEqProofs only [lk_normal, Nat.add_assoc, add_self, self_add, add_add, ZB, Int.reduceToNat, Nat.reduceLT, Nat.reduceLeDiff, Int.reduceLE, Int.reduceLT, Nat.reduceEqDiff, Nat.reduceSub, SB, SV.known, packR, ne_eq, reduceCtorEq, Nat.reduceEqDiff, ↓reduceIte, if_true, if_false, eq_self, Nat.reduceAdd, Nat.reduceMul, Nat.reduceSub, forall_const, oneCellS, litOne, flat1, Kd.isSca, flat, TYB]
    refine place_use hdv hlt (by omega) (by omega) fun x Hx nx hx hdx hlex hfx => ?_
    simp -implicitDefEqProofs only [lk_normal, Nat.add_assoc, add_self, self_add, add_add, ZB, Int.reduceToNat, Nat.reduceLT, Nat.reduceLeDiff, Int.reduceLE, Int.reduceLT, Nat.reduceEqDiff, Nat.reduceSub, SB, SV.known, packR, ne_eq, reduceCtorEq, Nat.reduceEqDiff, ↓reduceIte, if_true, if_false, eq_self, Nat.reduceAdd, Nat.reduceMul, Nat.reduceSub, forall_const, oneCellS, litOne, flat1, Kd.isSca, flat, TYB]
    refine pick_use (hdx.pushI hlt) hlt (by omega) (by omega) fun q Hq q0 q1 hdq hfq => ?_
    have hl := hfq.use (j := nx) (by omega) (by omega) (hget_same _ _ _)
    have q23 : q ≤ 23 := by omega
    have e1 : q.tdiv 11 = ((q.toNat / 11 : Nat) : Int) := by
      obtain ⟨Q, rfl⟩ : ∃ Q : Nat, q = Q := ⟨q.toNat, by omega⟩
      rfl
    have i1 : In64 (q.tdiv 11) := by rw [e1]; unfold In64; omega
    have i2 : In64 (4 + q.tdiv 11) := by rw [e1]; unfold In64; omega
    have i3 : 4 + q.tdiv 11 ≤ 6 := by rw [e1]; omega
    have i4 : 0 ≤ 4 + q.tdiv 11 := by rw [e1]; omega
    obtain ⟨K, hK, hK4, hK6⟩ : ∃ K : Nat, 4 + q.tdiv 11 = K ∧ 4 ≤ K ∧ K ≤ 6 := ⟨4 + q.toNat / 11, by rw [e1]; omega, by omega, by omega⟩
    rw [hK] at i2 i3 i4
    simp -implicitDefEqProofs only [lk_normal, i1, i2, i3, i4, hK, Nat.add_assoc, add_self, self_add, add_add, ZB, Int.reduceToNat, Nat.reduceLT, Nat.reduceLeDiff, Int.reduceLE, Int.reduceLT, Nat.reduceEqDiff, Nat.reduceSub, SB, SV.known, packR, ne_eq, reduceCtorEq, Nat.reduceEqDiff, ↓reduceIte, if_true, if_false, eq_self, Nat.reduceAdd, Nat.reduceMul, Nat.reduceSub, forall_const, oneCellS, litOne, flat1, Kd.isSca, flat, TYB]
    refine ⟨by omega, among_use hdq hlt (by omega) (by omega) hl (by omega) (by simp; omega) fun y Hy hy hdy hfy => ?_⟩
    have hyI : In64 y := by simp [List.replicate] at hy; unfold In64; omega
    have hzy := hdy.fr n _ (by omega) (by omega) z0
    simp -implicitDefEqProofs only [lk_normal, hzy, hV, tkV, dz, List.append_nil, Nat.add_assoc, add_self, self_add, add_add, ZB, Int.reduceToNat, Nat.reduceLT, Nat.reduceLeDiff, Int.reduceLE, Int.reduceLT, Nat.reduceEqDiff, Nat.reduceSub, SB, SV.known, packR, ne_eq, reduceCtorEq, Nat.reduceEqDiff, ↓reduceIte, if_true, if_false, eq_self, Nat.reduceAdd, Nat.reduceMul, Nat.reduceSub, forall_const, oneCellS, litOne, flat1, Kd.isSca, flat, TYB]
    exact ⟨by omega, V, x, y, ⟨rfl, rfl, rfl⟩, hV, hVi, hx, hyI, by omega, hwf_cons hdy.wf (by omega) trivial, fun i o hi ho => by
      rw [hget_cons, if_neg (by omega)]
      exact hdy.fr i o (by omega) (by omega) (fr0 i o hi ho)⟩
--@tbl DrawChanceTop = spec.DrawChanceTop
def DrawChanceTop_F := DrawCanPourAt_F
theorem DrawChanceTop_T : ∀ args H n m κ, DrawChanceTop_F args H n m κ → GenOK Try.prog 24 args H n m κ := by
  intro args H n m κ h
  unfold DrawChanceTop_F DrawCanPourAt_F at h
  split at h
  · rename_i cv
    obtain ⟨hB, hmn, h1⟩ := h
    exact gen_direct (X := (⟨Try.prog, tys, [], [(59, view7_F), (69, place_F), (61, pick_F), (62, among_F)], true, true, m, [59, 69, 61, 62], []⟩ : Cx)) fnx_DrawChanceTop ⟨tys_ok, .nil, .cons view7_T (.cons place_T (.cons pick_T (.cons among_T .nil))), mixed⟩ rfl (Nat.le_of_ble_eq_true rfl) (fun hwH hwa => DrawChanceTop_vc cv m n H hB hmn hwH) fun hwH v H' n' hψ h3 h4 h5 => by
      obtain ⟨V, x, y, rfl, g1, g2, g3, g4, g5⟩ := hψ
      exact h1 V x y H' n' g1 g2 g3 g4 g5
  · exact h.elim
theorem drawCT_use {cv : SV} {H : Heap} {n m : Nat} {κ : K1} (h1 : BytA cv H) (h2 : m ≤ n) (h3 : ∀ (V : List Int) (x y : Int) H' n', V.length = 18 → I64 V → In64 x → In64 y → Kpt n H H' n' → κ (.tup [.arr V, .int x, .int y]) H' n') : DrawChanceTop_F [cv] H n m κ := ⟨h1, h2, h3⟩
/-! A rack. -/
theorem fnx_DrawViewOf : FnOK Try.prog 48 Try.f48 (Try.f48.body.getD .skip) [100] [] := ⟨Try.func48, rfl, by kernel_rfl, by kernel_rfl⟩
theorem DrawViewOf_vc (cv : SV) (m n : Nat) (H : Heap) (hB : BytA cv H) (hmn : m ≤ n) (hwH : hwf n H) :
    codeVC (⟨Try.prog, tys, [], [(100, rack_F)], true, true, m, [100], []⟩ : Cx) n (Try.f48.body.getD .skip) (argS 0 [cv]) H n (retK tys Try.f48.results.toList fun v H' n' => ∃ R : List Int, v = .arr R ∧ R.length = 24 ∧ (∀ z ∈ R, In64 z) ∧ Kpt n H H' n') := by
  have hB' := hB
  have dz : (List.replicate 24 (0 : Int)).drop 24 = [] := rfl
  rcases hB with rfl | ⟨kc0, off0, len0, cap0, L0, rfl, hh0⟩
  all_goals
    simp -implicitDefEqProofs only [Try.f48, Option.getD_some, argS, Nat.add_assoc, add_self, self_add, add_add, ZB, Int.reduceToNat, Nat.reduceLT, Nat.reduceLeDiff, Int.reduceLE, Int.reduceLT, Nat.reduceEqDiff, Nat.reduceSub, SB, SV.known, packR, ne_eq, reduceCtorEq, Nat.reduceEqDiff, ↓reduceIte, if_true, if_false, eq_self, Nat.reduceAdd, Nat.reduceMul, Nat.reduceSub, forall_const, oneCellS, litOne, flat1, Kd.isSca, flat, TYB]
    obtain ⟨kc, hlt, d0⟩ := cur_new (hB'.put hwH (Nat.le_refl n) (.ints (List.replicate 24 0) 27)) (hwf_cons (hwf_mono (by omega) hwH) (Nat.lt_succ_self n) trivial) (Nat.lt_succ_self n) ⟨_, by simp [hget_cons]; rfl⟩
    refine rack_use d0 hlt (by omega) (by omega) (by omega) fun R H1 n1 hR hRi hd1 hle1 hf1 => ?_
    have hz1 := hd1.fr n _ (by omega) (by omega) (show hget _ n = some (.ints (List.replicate 24 0) 27) by simp [hget_cons])
    have tkR : R.take 24 = R := List.take_of_length_le (by omega)
    simp -implicitDefEqProofs only [hz1, hR, tkR, dz, List.append_nil, Nat.add_assoc, add_self, self_add, add_add, ZB, Int.reduceToNat, Nat.reduceLT, Nat.reduceLeDiff, Int.reduceLE, Int.reduceLT, Nat.reduceEqDiff, Nat.reduceSub, SB, SV.known, packR, ne_eq, reduceCtorEq, Nat.reduceEqDiff, ↓reduceIte, if_true, if_false, eq_self, Nat.reduceAdd, Nat.reduceMul, Nat.reduceSub, forall_const, oneCellS, litOne, flat1, Kd.isSca, flat, TYB]
    exact ⟨hmn, R, rfl, hR, hRi, by omega, hwf_cons hd1.wf (by omega) trivial, fun i o hi ho => by
      rw [hget_cons, if_neg (by omega)]
      exact hd1.fr i o (by omega) (by omega) (by rw [hget_cons, if_neg (by omega), hget_cons, if_neg (by omega)]; exact ho)⟩
def DrawViewOf_F : List SV → Heap → Nat → Nat → K1 → Prop
  | [cv], H, n, m, κ => BytA cv H ∧ m ≤ n ∧ ∀ (R : List Int) H' n', R.length = 24 → (∀ z ∈ R, In64 z) → Kpt n H H' n' → κ (.arr R) H' n'
  | _, _, _, _, _ => False
theorem DrawViewOf_T : ∀ args H n m κ, DrawViewOf_F args H n m κ → GenOK Try.prog 48 args H n m κ := by
  intro args H n m κ h
  unfold DrawViewOf_F at h
  split at h
  · rename_i cv
    obtain ⟨hB, hmn, h1⟩ := h
    exact gen_direct (X := (⟨Try.prog, tys, [], [(100, rack_F)], true, true, m, [100], []⟩ : Cx)) fnx_DrawViewOf ⟨tys_ok, .nil, .cons rack_T .nil, mixed⟩ rfl (Nat.le_of_ble_eq_true rfl) (fun hwH hwa => DrawViewOf_vc cv m n H hB hmn hwH) fun hwH v H' n' hψ h3 h4 h5 => by
      obtain ⟨R, rfl, g1, g2, g3⟩ := hψ
      exact h1 R H' n' g1 g2 g3
  · exact h.elim
theorem fnx_DrawRankOfRack : FnOK Try.prog 6 Try.f6 (Try.f6.body.getD .skip) [] [] := ⟨Try.func6, rfl, by kernel_rfl, by kernel_rfl⟩
theorem DrawRankOfRack_vc (cv : SV) (m n : Nat) (H : Heap) (hB : BytA cv H) (hmn : m ≤ n) (hwH : hwf n H) :
    codeVC (⟨Try.prog, tys, [], [(48, DrawViewOf_F)], true, true, m, [], []⟩ : Cx) n (Try.f6.body.getD .skip) (argS 0 [cv]) H n (retK tys Try.f6.results.toList fun v H' n' => ∃ R : List Int, v = .arr R ∧ R.length = 24 ∧ (∀ z ∈ R, In64 z) ∧ Kpt n H H' n') := by
  have hB' := hB
  have dz : (List.replicate 24 (0 : Int)).drop 24 = [] := rfl
  rcases hB with rfl | ⟨kc, off, len, cap, L, rfl, hh⟩
  all_goals
    simp -implicitDefEqProofs only [Try.f6, Option.getD_some, argS, DrawViewOf_F, Nat.add_assoc, add_self, self_add, add_add, ZB, Int.reduceToNat, Nat.reduceLT, Nat.reduceLeDiff, Int.reduceLE, Int.reduceLT, Nat.reduceEqDiff, Nat.reduceSub, SB, SV.known, packR, ne_eq, reduceCtorEq, Nat.reduceEqDiff, ↓reduceIte, if_true, if_false, eq_self, Nat.reduceAdd, Nat.reduceMul, Nat.reduceSub, forall_const, oneCellS, litOne, flat1, Kd.isSca, flat, TYB]
    refine ⟨hB'.put hwH (Nat.le_refl n) _, by omega, fun R H' n' hR hRi hK => ?_⟩
    have hz := hK.fr n _ (by omega) (hget_same _ _ _)
    have tkR := List.take_of_length_le (Nat.le_of_eq hR)
    have hle := hK.le
    simp -implicitDefEqProofs only [hz, hR, tkR, dz, List.append_nil, Nat.add_assoc, add_self, self_add, add_add, ZB, Int.reduceToNat, Nat.reduceLT, Nat.reduceLeDiff, Int.reduceLE, Int.reduceLT, Nat.reduceEqDiff, Nat.reduceSub, SB, SV.known, packR, ne_eq, reduceCtorEq, Nat.reduceEqDiff, ↓reduceIte, if_true, if_false, eq_self, Nat.reduceAdd, Nat.reduceMul, Nat.reduceSub, forall_const, oneCellS, litOne, flat1, Kd.isSca, flat, TYB]
    exact ⟨hmn, R, rfl, hR, hRi, by omega, hwf_cons hK.wf (by omega) trivial, fun i o hi ho => by
      rw [hget_cons, if_neg (by omega)]
      exact hK.under (by omega) i o hi ho⟩
--@tbl DrawRankOfRack = spec.DrawRankOfRack
def DrawRankOfRack_F := DrawViewOf_F
theorem DrawRankOfRack_T : ∀ args H n m κ, DrawRankOfRack_F args H n m κ → GenOK Try.prog 6 args H n m κ := by
  intro args H n m κ h
  unfold DrawRankOfRack_F DrawViewOf_F at h
  split at h
  · rename_i cv
    obtain ⟨hB, hmn, h1⟩ := h
    exact gen_direct (X := (⟨Try.prog, tys, [], [(48, DrawViewOf_F)], true, true, m, [], []⟩ : Cx)) fnx_DrawRankOfRack ⟨tys_ok, .nil, .cons DrawViewOf_T .nil, mixed⟩ rfl (Nat.le_of_ble_eq_true rfl) (fun hwH hwa => DrawRankOfRack_vc cv m n H hB hmn hwH) fun hwH v H' n' hψ h3 h4 h5 => by
      obtain ⟨R, rfl, g1, g2, g3⟩ := hψ
      exact h1 R H' n' g1 g2 g3
  · exact h.elim
theorem drawRR_use {cv : SV} {H : Heap} {n m : Nat} {κ : K1} (h1 : BytA cv H) (h2 : m ≤ n) (h3 : ∀ (R : List Int) H' n', R.length = 24 → (∀ z ∈ R, In64 z) → Kpt n H H' n' → κ (.arr R) H' n') : DrawRankOfRack_F [cv] H n m κ := ⟨h1, h2, h3⟩
/-! A view and a rank. -/
theorem fnx_DrawCandidateAt : FnOK Try.prog 11 Try.f11 (Try.f11.body.getD .skip) [59, 60, 61, 62] [(5, .tree (.one 1 (.one 3 (.one 6 (.alt 0 (.one 2 (.one 4 (.one 5 (.one 7 (.one 8 (.one 9 .done)))))) (.alt 2 (.alt 0 (.one 4 (.one 5 (.one 7 (.one 8 (.one 9 .done))))) (.alt 4 (.one 0 (.one 5 (.one 7 (.one 8 (.one 9 .done))))) .stop)) .stop)))))), (6, .tree (.one 1 (.alt 0 (.one 2 (.one 3 (.one 4 (.one 5 .done)))) (.alt 2 (.alt 0 (.one 3 (.one 4 (.one 5 .done))) (.alt 3 (.one 0 (.one 4 (.one 5 .done))) .stop)) .stop))))] := ⟨Try.func11, rfl, by kernel_rfl, by kernel_rfl⟩
set_option maxHeartbeats 2000000 in
theorem DrawCandidateAt_vc (cv : SV) (m n : Nat) (H : Heap) (hB : BytA cv H) (hmn : m ≤ n) (hwH : hwf n H) :
    codeVC (⟨Try.prog, tys, [(16, sCountCandidates_F)], [(59, view7_F), (60, one_F), (61, pick_F), (62, among_F)], true, true, m, [59, 60, 61, 62], [(5, .tree (.one 1 (.one 3 (.one 6 (.alt 0 (.one 2 (.one 4 (.one 5 (.one 7 (.one 8 (.one 9 .done)))))) (.alt 2 (.alt 0 (.one 4 (.one 5 (.one 7 (.one 8 (.one 9 .done))))) (.alt 4 (.one 0 (.one 5 (.one 7 (.one 8 (.one 9 .done))))) .stop)) .stop)))))), (6, .tree (.one 1 (.alt 0 (.one 2 (.one 3 (.one 4 (.one 5 .done)))) (.alt 2 (.alt 0 (.one 3 (.one 4 (.one 5 .done))) (.alt 3 (.one 0 (.one 4 (.one 5 .done))) .stop)) .stop))))]⟩ : Cx) n (Try.f11.body.getD .skip) (argS 0 [cv]) H n (retK tys Try.f11.results.toList fun v H' n' => ∃ (V : List Int) (x : Int), v = .tup [.arr V, .int x] ∧ V.length = 18 ∧ I64 V ∧ In64 x ∧ Kpt n H H' n') := by
  have hB' := hB
  have dz : (List.replicate 18 (0 : Int)).drop 18 = [] := rfl
  rcases hB with rfl | ⟨kc0, off0, len0, cap0, L0, rfl, hh0⟩
  all_goals
    simp -implicitDefEqProofs only [Try.f11, Option.getD_some, argS, Nat.add_assoc, add_self, self_add, add_add, ZB, Int.reduceToNat, Nat.reduceLT, Nat.reduceLeDiff, Int.reduceLE, Int.reduceLT, Nat.reduceEqDiff, Nat.reduceSub, SB, SV.known, packR, ne_eq, reduceCtorEq, Nat.reduceEqDiff, ↓reduceIte, if_true, if_false, eq_self, Nat.reduceAdd, Nat.reduceMul, Nat.reduceSub, forall_const, oneCellS, litOne, flat1, Kd.isSca, flat, TYB]
    have hw1 : hwf (n + 1) ((n, .ints (List.replicate 18 0) 31) :: H) := hwf_cons (hwf_mono (by omega) hwH) (Nat.lt_succ_self n) trivial
    obtain ⟨kc, hlt, d0⟩ := cur_new (hB'.put hwH (Nat.le_refl n) (.ints (List.replicate 18 0) 31)) hw1 (Nat.lt_succ_self n) ⟨_, by simp [hget_cons]; rfl⟩
    obtain ⟨Hs, d0, fr0, z0⟩ : ∃ Hs, Drawn (n + 1) kc 0 0 (n + 1 + 1) Hs _ (n + 1 + 1) ∧ (∀ i o, i < n → hget H i = some o → hget Hs i = some o) ∧ hget Hs n = some (.ints (List.replicate 18 0) 31) := ⟨_, d0, fun i o hi ho => by (repeat rw [hget_cons, if_neg (by omega)]); exact ho, by simp [hget_cons] <;> omega⟩
    refine view7_use d0 hlt (by omega) (by omega) (by omega) fun V Hv nv hV hVi hdv hlev hfv => ?_
    have tkV := List.take_of_length_le (Nat.le_of_eq hV)
    have hd2 := (hdv.pushI hlt (L := List.replicate 18 0) (e := 31)).putI hlt (L := V) (e := 31) (k0 := nv) (by omega) (by omega)
    simp -implicitDefEqProofs only [lk_normal, sCountCandidates_F, hV, hVi, tkV, Nat.add_assoc, add_self, self_add, add_add, ZB, Int.reduceToNat, Nat.reduceLT, Nat.reduceLeDiff, Int.reduceLE, Int.reduceLT, Nat.reduceEqDiff, Nat.reduceSub, SB, SV.known, packR, ne_eq, reduceCtorEq, Nat.reduceEqDiff, ↓reduceIte, if_true, if_false, eq_self, Nat.reduceAdd, Nat.reduceMul, Nat.reduceSub, forall_const, oneCellS, litOne, flat1, Kd.isSca, flat, TYB]
    have gV := hget_same nv (.ints V 31) ((nv, .ints (List.replicate 18 0) 31) :: Hv)
    cases hv : isVF V
    · simp -implicitDefEqProofs only [lk_normal, Nat.add_assoc, add_self, self_add, add_add, ZB, Int.reduceToNat, Nat.reduceLT, Nat.reduceLeDiff, Int.reduceLE, Int.reduceLT, Nat.reduceEqDiff, Nat.reduceSub, SB, SV.known, packR, ne_eq, reduceCtorEq, Nat.reduceEqDiff, ↓reduceIte, if_true, if_false, eq_self, Nat.reduceAdd, Nat.reduceMul, Nat.reduceSub, forall_const, oneCellS, litOne, flat1, Kd.isSca, flat, TYB]
      refine ⟨by omega, {p : Int × Heap // In64 p.1 ∧ hwf (nv + 2) p.2 ∧ ∀ i o, i < n → hget H i = some o → hget p.2 i = some o}, fun p => [(3, .int p.1.1), (2, .ptr n 0)], fun p => (n, .ints V 31) :: p.1.2, fun _ => nv + 2, ?_, ?_⟩
      · simp -implicitDefEqProofs only [gV, hV, tkV, Nat.add_assoc, add_self, self_add, add_add, ZB, Int.reduceToNat, Nat.reduceLT, Nat.reduceLeDiff, Int.reduceLE, Int.reduceLT, Nat.reduceEqDiff, Nat.reduceSub, SB, SV.known, packR, ne_eq, reduceCtorEq, Nat.reduceEqDiff, ↓reduceIte, if_true, if_false, eq_self, Nat.reduceAdd, Nat.reduceMul, Nat.reduceSub, forall_const, oneCellS, litOne, flat1, Kd.isSca, flat, TYB]
        refine ⟨?_, ?_, ?_⟩
        all_goals
          refine among_use (hd2.pushI hlt) hlt (by omega) (by omega) (hget_same _ _ _) (by omega) (by simp) fun y H3 hy hd3 hf3 => ?_
          have hyI : In64 y := by simp at hy; unfold In64; omega
          have gz := hd3.fr n _ (by omega) (by omega) z0
          have gV3 := hf3.use (j := nv) (o := .ints V 31) (by omega) (by omega) (by rw [hget_cons, if_neg (by omega)]; exact gV)
          simp -implicitDefEqProofs only [gz, gV3, hV, tkV, dz, List.append_nil, Nat.add_assoc, add_self, self_add, add_add, ZB, Int.reduceToNat, Nat.reduceLT, Nat.reduceLeDiff, Int.reduceLE, Int.reduceLT, Nat.reduceEqDiff, Nat.reduceSub, SB, SV.known, packR, ne_eq, reduceCtorEq, Nat.reduceEqDiff, ↓reduceIte, if_true, if_false, eq_self, Nat.reduceAdd, Nat.reduceMul, Nat.reduceSub, forall_const, oneCellS, litOne, flat1, Kd.isSca, flat, TYB]
          exact ⟨hmn, ⟨(y, H3), hyI, hd3.wf, fun i o hi ho => hd3.fr i o (by omega) (by omega) (fr0 i o hi ho)⟩, Sub.same (by simp only [LB, subS, subH, wfS, wfH, SV.ren, renL, SObj.ren, SV.wf, SObj.wf, wfL, SV.known, Nat.reduceEqDiff, ↓reduceIte, if_true, if_false, eq_self, Nat.reduceAdd, Nat.reduceLT, Nat.reduceLeDiff, implies_true, reduceCtorEq, forall_const]; try rfl) (by simp [subS, subH, wfS, wfH, SV.ren, renL, SObj.ren, SV.wf, SObj.wf, wfL, sget_cons, hget_cons] <;> omega) (hwf_cons hd3.wf (by omega) trivial) (by omega)⟩
      · rintro ⟨⟨y, H3⟩, hyI, hw3, fr3⟩
        simp only at hyI hw3 fr3
        simp -implicitDefEqProofs only [lk_normal, hV, tkV, Nat.add_assoc, add_self, self_add, add_add, ZB, Int.reduceToNat, Nat.reduceLT, Nat.reduceLeDiff, Int.reduceLE, Int.reduceLT, Nat.reduceEqDiff, Nat.reduceSub, SB, SV.known, packR, ne_eq, reduceCtorEq, Nat.reduceEqDiff, ↓reduceIte, if_true, if_false, eq_self, Nat.reduceAdd, Nat.reduceMul, Nat.reduceSub, forall_const, oneCellS, litOne, flat1, Kd.isSca, flat, TYB]
        exact ⟨V, y, ⟨rfl, rfl⟩, hV, hVi, hyI, by omega, hwf_cons hw3 (by omega) trivial, fun i o hi ho => by
          rw [hget_cons, if_neg (by omega)]
          exact fr3 i o hi ho⟩
    · simp -implicitDefEqProofs only [lk_normal, Nat.add_assoc, add_self, self_add, add_add, ZB, Int.reduceToNat, Nat.reduceLT, Nat.reduceLeDiff, Int.reduceLE, Int.reduceLT, Nat.reduceEqDiff, Nat.reduceSub, SB, SV.known, packR, ne_eq, reduceCtorEq, Nat.reduceEqDiff, ↓reduceIte, if_true, if_false, eq_self, Nat.reduceAdd, Nat.reduceMul, Nat.reduceSub, forall_const, oneCellS, litOne, flat1, Kd.isSca, flat, TYB]
      refine ⟨by omega, one_use hd2 hlt (by omega) (by omega) fun o Ho hdo hfo => ?_⟩
      have gVo := hfo.use (j := nv) (by omega) (by omega) gV
      cases o
      · have cc1 : 1 ≤ ccV V ∧ ccV V ≤ 6402373705728000 := by
          unfold ccV
          rw [if_pos hv]
          have hf := isV_facts hV hVi hv
          exact arrF_bd hf.2.2.2.2.2.2.2.1 hf.2.2.2.2.2.2.2.2.2
        have cc0 : ccV V ≠ 0 := by omega
        simp -implicitDefEqProofs only [lk_normal, Nat.add_assoc, add_self, self_add, add_add, ZB, Int.reduceToNat, Nat.reduceLT, Nat.reduceLeDiff, Int.reduceLE, Int.reduceLT, Nat.reduceEqDiff, Nat.reduceSub, SB, SV.known, packR, ne_eq, reduceCtorEq, Nat.reduceEqDiff, ↓reduceIte, if_true, if_false, eq_self, Nat.reduceAdd, Nat.reduceMul, Nat.reduceSub, forall_const, oneCellS, litOne, flat1, Kd.isSca, flat, TYB]
        refine ⟨{p : Int × Heap // In64 p.1 ∧ hwf (nv + 1) p.2 ∧ ∀ i o, i < n → hget H i = some o → hget p.2 i = some o}, fun p => [(3, .int p.1.1), (2, .ptr n 0)], fun p => (n, .ints V 31) :: p.1.2, fun _ => nv + 1, ?_, ?_⟩
        · simp -implicitDefEqProofs only [gVo, hV, tkV, Nat.add_assoc, add_self, self_add, add_add, ZB, Int.reduceToNat, Nat.reduceLT, Nat.reduceLeDiff, Int.reduceLE, Int.reduceLT, Nat.reduceEqDiff, Nat.reduceSub, SB, SV.known, packR, ne_eq, reduceCtorEq, Nat.reduceEqDiff, ↓reduceIte, if_true, if_false, eq_self, Nat.reduceAdd, Nat.reduceMul, Nat.reduceSub, forall_const, oneCellS, litOne, flat1, Kd.isSca, flat, TYB]
          refine ⟨?_, ?_⟩
          · refine pick_use hdo hlt (by omega) (by omega) fun x H3 x0 x1 hd3 hf3 => ?_
            have gV3 := hf3.use (j := nv) (by omega) (by omega) gVo
            simp -implicitDefEqProofs only [gV3, hV, tkV, Nat.add_assoc, add_self, self_add, add_add, ZB, Int.reduceToNat, Nat.reduceLT, Nat.reduceLeDiff, Int.reduceLE, Int.reduceLT, Nat.reduceEqDiff, Nat.reduceSub, SB, SV.known, packR, ne_eq, reduceCtorEq, Nat.reduceEqDiff, ↓reduceIte, if_true, if_false, eq_self, Nat.reduceAdd, Nat.reduceMul, Nat.reduceSub, forall_const, oneCellS, litOne, flat1, Kd.isSca, flat, TYB]
            refine pick_use hd3 hlt (by omega) (by omega) fun y H4 y0 y1 hd4 hf4 => ?_
            have gV4 := hf4.use (j := nv) (by omega) (by omega) gV3
            have gz4 := hd4.fr n _ (by omega) (by omega) z0
            have mb := mul_bd x0 (show x ≤ 1000 by omega) y0 (show y ≤ 1000 by omega)
            have i1 : In64 (x * y) := by unfold In64; omega
            have i2 : In64 ((x * y).tmod (ccV V)) := by
              have := Int.tmod_nonneg (ccV V) mb.1
              have := Int.tmod_lt_of_pos (x * y) (show 0 < ccV V by omega)
              unfold In64; omega
            simp -implicitDefEqProofs only [gV4, gz4, hV, tkV, dz, List.append_nil, cc0, i1, i2, Nat.add_assoc, add_self, self_add, add_add, ZB, Int.reduceToNat, Nat.reduceLT, Nat.reduceLeDiff, Int.reduceLE, Int.reduceLT, Nat.reduceEqDiff, Nat.reduceSub, SB, SV.known, packR, ne_eq, reduceCtorEq, Nat.reduceEqDiff, ↓reduceIte, if_true, if_false, eq_self, Nat.reduceAdd, Nat.reduceMul, Nat.reduceSub, forall_const, oneCellS, litOne, flat1, Kd.isSca, flat, TYB]
            exact ⟨hmn, ⟨((x * y).tmod (ccV V), H4), i2, hd4.wf, fun i o hi ho => hd4.fr i o (by omega) (by omega) (fr0 i o hi ho)⟩, Sub.same (by simp only [LB, subS, subH, wfS, wfH, SV.ren, renL, SObj.ren, SV.wf, SObj.wf, wfL, SV.known, Nat.reduceEqDiff, ↓reduceIte, if_true, if_false, eq_self, Nat.reduceAdd, Nat.reduceLT, Nat.reduceLeDiff, implies_true, reduceCtorEq, forall_const]; try rfl) (by simp [subS, subH, wfS, wfH, SV.ren, renL, SObj.ren, SV.wf, SObj.wf, wfL, sget_cons, hget_cons] <;> omega) (hwf_cons hd4.wf (by omega) trivial) (by omega)⟩
          · refine pick_use hdo hlt (by omega) (by omega) fun x H3 x0 x1 hd3 hf3 => ?_
            have gV3 := hf3.use (j := nv) (by omega) (by omega) gVo
            simp -implicitDefEqProofs only [gV3, hV, tkV, Nat.add_assoc, add_self, self_add, add_add, ZB, Int.reduceToNat, Nat.reduceLT, Nat.reduceLeDiff, Int.reduceLE, Int.reduceLT, Nat.reduceEqDiff, Nat.reduceSub, SB, SV.known, packR, ne_eq, reduceCtorEq, Nat.reduceEqDiff, ↓reduceIte, if_true, if_false, eq_self, Nat.reduceAdd, Nat.reduceMul, Nat.reduceSub, forall_const, oneCellS, litOne, flat1, Kd.isSca, flat, TYB]
            refine ⟨?_, ?_⟩
            all_goals
              refine pick_use hd3 hlt (by omega) (by omega) fun y H4 y0 y1 hd4 hf4 => ?_
              have gV4 := hf4.use (j := nv) (by omega) (by omega) gV3
              have gz4 := hd4.fr n _ (by omega) (by omega) z0
              have mb := mul_bd x0 (show x ≤ 1000 by omega) y0 (show y ≤ 1000 by omega)
              have i1 : In64 (x * y) := by unfold In64; omega
              have i2 : In64 ((x * y).tmod (ccV V)) := by
                have := Int.tmod_nonneg (ccV V) mb.1
                have := Int.tmod_lt_of_pos (x * y) (show 0 < ccV V by omega)
                unfold In64; omega
              simp -implicitDefEqProofs only [gV4, gz4, hV, tkV, dz, List.append_nil, cc0, i1, i2, Nat.add_assoc, add_self, self_add, add_add, ZB, Int.reduceToNat, Nat.reduceLT, Nat.reduceLeDiff, Int.reduceLE, Int.reduceLT, Nat.reduceEqDiff, Nat.reduceSub, SB, SV.known, packR, ne_eq, reduceCtorEq, Nat.reduceEqDiff, ↓reduceIte, if_true, if_false, eq_self, Nat.reduceAdd, Nat.reduceMul, Nat.reduceSub, forall_const, oneCellS, litOne, flat1, Kd.isSca, flat, TYB]
              exact ⟨hmn, ⟨((x * y).tmod (ccV V), H4), i2, hd4.wf, fun i o hi ho => hd4.fr i o (by omega) (by omega) (fr0 i o hi ho)⟩, Sub.same (by simp only [LB, subS, subH, wfS, wfH, SV.ren, renL, SObj.ren, SV.wf, SObj.wf, wfL, SV.known, Nat.reduceEqDiff, ↓reduceIte, if_true, if_false, eq_self, Nat.reduceAdd, Nat.reduceLT, Nat.reduceLeDiff, implies_true, reduceCtorEq, forall_const]; try rfl) (by simp [subS, subH, wfS, wfH, SV.ren, renL, SObj.ren, SV.wf, SObj.wf, wfL, sget_cons, hget_cons] <;> omega) (hwf_cons hd4.wf (by omega) trivial) (by omega)⟩
        · rintro ⟨⟨y, H3⟩, hyI, hw3, fr3⟩
          simp only at hyI hw3 fr3
          simp -implicitDefEqProofs only [lk_normal, hV, tkV, Nat.add_assoc, add_self, self_add, add_add, ZB, Int.reduceToNat, Nat.reduceLT, Nat.reduceLeDiff, Int.reduceLE, Int.reduceLT, Nat.reduceEqDiff, Nat.reduceSub, SB, SV.known, packR, ne_eq, reduceCtorEq, Nat.reduceEqDiff, ↓reduceIte, if_true, if_false, eq_self, Nat.reduceAdd, Nat.reduceMul, Nat.reduceSub, forall_const, oneCellS, litOne, flat1, Kd.isSca, flat, TYB]
          exact ⟨V, y, ⟨rfl, rfl⟩, hV, hVi, hyI, by omega, hwf_cons hw3 (by omega) trivial, fun i o hi ho => by
            rw [hget_cons, if_neg (by omega)]
            exact fr3 i o hi ho⟩
      · simp -implicitDefEqProofs only [lk_normal, Nat.add_assoc, add_self, self_add, add_add, ZB, Int.reduceToNat, Nat.reduceLT, Nat.reduceLeDiff, Int.reduceLE, Int.reduceLT, Nat.reduceEqDiff, Nat.reduceSub, SB, SV.known, packR, ne_eq, reduceCtorEq, Nat.reduceEqDiff, ↓reduceIte, if_true, if_false, eq_self, Nat.reduceAdd, Nat.reduceMul, Nat.reduceSub, forall_const, oneCellS, litOne, flat1, Kd.isSca, flat, TYB]
        refine ⟨{p : Int × Heap // In64 p.1 ∧ hwf (nv + 2) p.2 ∧ ∀ i o, i < n → hget H i = some o → hget p.2 i = some o}, fun p => [(3, .int p.1.1), (2, .ptr n 0)], fun p => (n, .ints V 31) :: p.1.2, fun _ => nv + 2, ?_, ?_⟩
        · simp -implicitDefEqProofs only [gVo, hV, tkV, Nat.add_assoc, add_self, self_add, add_add, ZB, Int.reduceToNat, Nat.reduceLT, Nat.reduceLeDiff, Int.reduceLE, Int.reduceLT, Nat.reduceEqDiff, Nat.reduceSub, SB, SV.known, packR, ne_eq, reduceCtorEq, Nat.reduceEqDiff, ↓reduceIte, if_true, if_false, eq_self, Nat.reduceAdd, Nat.reduceMul, Nat.reduceSub, forall_const, oneCellS, litOne, flat1, Kd.isSca, flat, TYB]
          refine ⟨?_, ?_, ?_⟩
          all_goals
            refine among_use (hdo.pushI hlt) hlt (by omega) (by omega) (hget_same _ _ _) (by omega) (by simp) fun y H3 hy hd3 hf3 => ?_
            have hyI : In64 y := by simp at hy; unfold In64; omega
            have gz := hd3.fr n _ (by omega) (by omega) z0
            have gV3 := hf3.use (j := nv) (o := .ints V 31) (by omega) (by omega) (by rw [hget_cons, if_neg (by omega)]; exact gVo)
            simp -implicitDefEqProofs only [gz, gV3, hV, tkV, dz, List.append_nil, Nat.add_assoc, add_self, self_add, add_add, ZB, Int.reduceToNat, Nat.reduceLT, Nat.reduceLeDiff, Int.reduceLE, Int.reduceLT, Nat.reduceEqDiff, Nat.reduceSub, SB, SV.known, packR, ne_eq, reduceCtorEq, Nat.reduceEqDiff, ↓reduceIte, if_true, if_false, eq_self, Nat.reduceAdd, Nat.reduceMul, Nat.reduceSub, forall_const, oneCellS, litOne, flat1, Kd.isSca, flat, TYB]
            exact ⟨hmn, ⟨(y, H3), hyI, hd3.wf, fun i o hi ho => hd3.fr i o (by omega) (by omega) (fr0 i o hi ho)⟩, Sub.same (by simp only [LB, subS, subH, wfS, wfH, SV.ren, renL, SObj.ren, SV.wf, SObj.wf, wfL, SV.known, Nat.reduceEqDiff, ↓reduceIte, if_true, if_false, eq_self, Nat.reduceAdd, Nat.reduceLT, Nat.reduceLeDiff, implies_true, reduceCtorEq, forall_const]; try rfl) (by simp [subS, subH, wfS, wfH, SV.ren, renL, SObj.ren, SV.wf, SObj.wf, wfL, sget_cons, hget_cons] <;> omega) (hwf_cons hd3.wf (by omega) trivial) (by omega)⟩
        · rintro ⟨⟨y, H3⟩, hyI, hw3, fr3⟩
          simp only at hyI hw3 fr3
          simp -implicitDefEqProofs only [lk_normal, hV, tkV, Nat.add_assoc, add_self, self_add, add_add, ZB, Int.reduceToNat, Nat.reduceLT, Nat.reduceLeDiff, Int.reduceLE, Int.reduceLT, Nat.reduceEqDiff, Nat.reduceSub, SB, SV.known, packR, ne_eq, reduceCtorEq, Nat.reduceEqDiff, ↓reduceIte, if_true, if_false, eq_self, Nat.reduceAdd, Nat.reduceMul, Nat.reduceSub, forall_const, oneCellS, litOne, flat1, Kd.isSca, flat, TYB]
          exact ⟨V, y, ⟨rfl, rfl⟩, hV, hVi, hyI, by omega, hwf_cons hw3 (by omega) trivial, fun i o hi ho => by
            rw [hget_cons, if_neg (by omega)]
            exact fr3 i o hi ho⟩
--@tbl DrawCandidateAt = spec.DrawCandidateAt
def DrawCandidateAt_F : List SV → Heap → Nat → Nat → K1 → Prop
  | [cv], H, n, m, κ => BytA cv H ∧ m ≤ n ∧ ∀ (V : List Int) (x : Int) H' n', V.length = 18 → I64 V → In64 x → Kpt n H H' n' → κ (.tup [.arr V, .int x]) H' n'
  | _, _, _, _, _ => False
theorem DrawCandidateAt_T : ∀ args H n m κ, DrawCandidateAt_F args H n m κ → GenOK Try.prog 11 args H n m κ := by
  intro args H n m κ h
  unfold DrawCandidateAt_F at h
  split at h
  · rename_i cv
    obtain ⟨hB, hmn, h1⟩ := h
    exact gen_direct (X := (⟨Try.prog, tys, [(16, sCountCandidates_F)], [(59, view7_F), (60, one_F), (61, pick_F), (62, among_F)], true, true, m, [59, 60, 61, 62], [(5, .tree (.one 1 (.one 3 (.one 6 (.alt 0 (.one 2 (.one 4 (.one 5 (.one 7 (.one 8 (.one 9 .done)))))) (.alt 2 (.alt 0 (.one 4 (.one 5 (.one 7 (.one 8 (.one 9 .done))))) (.alt 4 (.one 0 (.one 5 (.one 7 (.one 8 (.one 9 .done))))) .stop)) .stop)))))), (6, .tree (.one 1 (.alt 0 (.one 2 (.one 3 (.one 4 (.one 5 .done)))) (.alt 2 (.alt 0 (.one 3 (.one 4 (.one 5 .done))) (.alt 3 (.one 0 (.one 4 (.one 5 .done))) .stop)) .stop))))]⟩ : Cx)) fnx_DrawCandidateAt ⟨tys_ok, .cons sCountCandidates_T .nil, .cons view7_T (.cons one_T (.cons pick_T (.cons among_T .nil))), mixed⟩ rfl (Nat.le_of_ble_eq_true rfl) (fun hwH hwa => DrawCandidateAt_vc cv m n H hB hmn hwH) fun hwH v H' n' hψ h3 h4 h5 => by
      obtain ⟨V, x, rfl, g1, g2, g3, g4⟩ := hψ
      exact h1 V x H' n' g1 g2 g3 g4
  · exact h.elim
theorem drawCA_use {cv : SV} {H : Heap} {n m : Nat} {κ : K1} (h1 : BytA cv H) (h2 : m ≤ n) (h3 : ∀ (V : List Int) (x : Int) H' n', V.length = 18 → I64 V → In64 x → Kpt n H H' n' → κ (.tup [.arr V, .int x]) H' n') : DrawCandidateAt_F [cv] H n m κ := ⟨h1, h2, h3⟩
end Go.Proofs.Ytckcojgfgcjamaa
set_option maxRecDepth 100000
set_option linter.unusedSimpArgs false
set_option linter.unusedVariables false
namespace Go.Proofs.Ytckcojgfgcjamaa
open Go Go.RowKit
theorem st_rank {R : List Int} (hR : R.length = 24) (hr : rackB R = true) : voF R = viewF R ∧ caB (viewF R) (rankF R) = true ∧ caF (viewF R) (rankF R) = R ∧ isVF (viewF R) = true ∧ rankF R < ccV (viewF R) := by
  obtain ⟨h1, h2, h3⟩ := made_rankF hR hr
  have hg := view_good hR hr
  have hc : caB (viewF R) (rankF R) = true := by unfold caB; rw [hg, decide_eq_true h2, decide_eq_true (by omega)]; rfl
  refine ⟨if_pos hr, hc, ?_, hg, ?_⟩
  · unfold caF; rw [if_pos hc]; exact h1
  · unfold ccV; rw [if_pos hg]; exact h3
theorem caB_x {V : List Int} {x : Int} (h : caB V x = true) : isVF V = true ∧ 0 ≤ x ∧ x < arrF (hidV V) := by
  simp only [caB, Bool.and_eq_true, decide_eq_true_eq] at h
  exact ⟨h.1.1, h.1.2, by omega⟩
theorem st_made {V : List Int} {x : Int} (hV : V.length = 18) (h64 : I64 V) (h : caB V x = true) : rackB (caF V x) = true ∧ rankF (caF V x) = x ∧ voF (caF V x) = V := by
  obtain ⟨hv, x0, x1⟩ := caB_x h
  have g := vG_of hV h64 hv
  have h0 := (isV_facts hV h64 hv).2.2.2.2.2.2.1
  have ec : caF V x = madeF V x := if_pos h
  rw [ec]
  have hr := made_rack g h0 x0 x1
  exact ⟨hr, rank_of_made hV h64 hv x0 x1, by unfold voF; rw [if_pos hr]; exact made_view hV h64 hv x0 x1⟩
theorem st_first {V : List Int} (hV : V.length = 18) (h64 : I64 V) (hv : isVF V = true) : rackB (caF V 0) = true ∧ rankF (caF V 0) = 0 ∧ 1 ≤ ccV V ∧ (hcL V).sum = hcN V ∧ Bd 0 24 (hcL V) := by
  have hc : caB V 0 = true := by rw [caB_zero hV h64]; exact hv
  obtain ⟨h1, h2, _⟩ := st_made hV h64 hc
  have g := vG_of hV h64 hv
  refine ⟨h1, h2, ?_, ?_, ?_⟩
  · unfold ccV; rw [if_pos hv]; exact (arrF_bd g.bH g.h18).1
  · unfold hcL hcN; rw [if_pos hv, if_pos hv]; rfl
  · unfold hcL; rw [if_pos hv]; exact g.bH
/-- Sums from the first one on. -/
def fS (f : Nat → Int) : Nat → Int
  | 0 => 0
  | k + 1 => fS f k + f (k + 1)
theorem fS_nn {f : Nat → Int} : ∀ k, (∀ q, 1 ≤ q → q ≤ k → 0 ≤ f q) → 0 ≤ fS f k
  | 0, _ => Int.le_refl _
  | k + 1, h => by
    have := fS_nn (f := f) k fun q h1 h2 => h q h1 (by omega)
    have := h (k + 1) (by omega) (Nat.le_refl _)
    show 0 ≤ fS f k + f (k + 1)
    omega
theorem fS_le {f : Nat → Int} {a : Int} : ∀ k, (∀ q, 1 ≤ q → q ≤ k → f q ≤ a) → fS f k ≤ a * k
  | 0, _ => by simp [fS]
  | k + 1, h => by
    have := fS_le (f := f) (a := a) k fun q h1 h2 => h q h1 (by omega)
    have := h (k + 1) (by omega) (Nat.le_refl _)
    have e : a * ((k + 1 : Nat) : Int) = a * k + a := by rw [Int.natCast_add, Int.mul_add]; simp
    show fS f k + f (k + 1) ≤ _
    omega
theorem frac_small {p n : Int} (hp : 0 ≤ p) (hp2 : p ≤ 1000000000) (hn : 0 < n) (hn2 : n ≤ 1000000000) : smallF (fracF p n) := by
  have := fracF_pos hp hn
  exact ⟨fracF_len _ _, this.1, by omega, this.2.2.1, by omega⟩
/-- What a law adds up: one fraction after the other. -/
structure Adds (f : Nat → Int) (n : Int) (m : Nat) : Prop where
  b : ∀ q, 1 ≤ q → q ≤ m → 0 ≤ f q ∧ f q ≤ 1000000
  m5 : m ≤ 5
  np : 0 < n ∧ n ≤ 1000000
  s : fS f m = n
theorem Adds.step {f : Nat → Int} {n : Int} {m k : Nat} (h : Adds f n m) (hk : k < m) : smallF (fracF (fS f k) n) ∧ smallF (fracF (f (k + 1)) n) ∧ plusF (fracF (fS f k) n) (fracF (f (k + 1)) n) = fracF (fS f (k + 1)) n := by
  have h1 := fS_nn (f := f) k fun q a b => (h.b q a (by omega)).1
  have h2 := fS_le (f := f) (a := 1000000) k fun q a b => (h.b q a (by omega)).2
  have h3 := h.b (k + 1) (by omega) (by omega)
  have := h.m5
  have := h.np
  exact ⟨frac_small h1 (by omega) h.np.1 (by omega), frac_small h3.1 (by omega) h.np.1 (by omega), plus_frac h1 h3.1 h.np.1⟩
theorem Adds.zero {f : Nat → Int} {n : Int} {m : Nat} (h : Adds f n m) : fracF (fS f 0) n = [0, 1] := frac_zero h.np.1
theorem Adds.one {f : Nat → Int} {n : Int} {m : Nat} (h : Adds f n m) : fracF (fS f m) n = [1, 1] := by rw [h.s]; exact frac_one h.np.1
theorem below_adds {W : List Int} {i c : Int} (hW : W.length = 18) (h64 : I64 W) (h : cbB W i c = true) : Adds (fun q => (hidV W).getD q 0) (al W) 5 ∧ ∀ q : Nat, 1 ≤ q → q ≤ 5 → cbB W i q = true ∧ cbF W i q = fracF ((hidV W).getD q 0) (al W) := by
  simp only [cbB, Bool.and_eq_true, Bool.not_eq_true', decide_eq_false_iff_not] at h
  obtain ⟨⟨⟨hv, hp⟩, _⟩, h2⟩ := h
  have hf := isV_facts hW h64 hv
  have g := vG_of hW h64 hv
  have hx : 0 ≤ i ∧ i < 6 := by have := of_decide_eq_true hp; omega
  have ap := al_pos g (i := i.toNat) (by omega) h2
  have six := sum_six g.lenH
  have z := hf.2.2.2.2.2.2.1
  refine ⟨⟨fun q h1 h5 => by have := g.bH.getD (k := q) (by rw [g.lenH]; omega); omega, Nat.le_refl _, by omega, ?_⟩, fun q h1 h5 => ?_⟩
  · have ea : al W = (hidV W).sum := rfl
    rw [ea, six, z]
    simp only [fS]
  · have hc : cbB W i q = true := by
      unfold cbB
      rw [hv, hp, decide_eq_false h2]
      have : coF (q : Int) = true := decide_eq_true (by omega)
      rw [this]; rfl
    refine ⟨hc, ?_⟩
    unfold cbF
    rw [if_pos hc, Int.toNat_natCast]
theorem tops_adds {X : List Int} {i r : Int} (hX : X.length = 18) (h64 : I64 X) (h : ctB X i r = true) : Adds (fun q => tv X i.toNat q) (chP (al X) 0 (mm X i.toNat - 1)) 4 ∧ ∀ q : Nat, 1 ≤ q → q ≤ 4 → ctB X i q = true ∧ ctF X i q = fracF (tv X i.toNat q) (chP (al X) 0 (mm X i.toNat - 1)) := by
  simp only [ctB, Bool.and_eq_true, Bool.not_eq_true', decide_eq_false_iff_not] at h
  obtain ⟨⟨⟨hv, hp⟩, h2⟩, _⟩ := h
  have g := vG_of hX h64 hv
  have hx : 0 ≤ i ∧ i < 6 := by have := of_decide_eq_true hp; omega
  obtain ⟨C, m1, m4⟩ := ct_x g (i := i.toNat) (by omega) h2
  refine ⟨⟨fun q h1 h4 => C.t q h1 h4, by omega, C.p, ?_⟩, fun q h1 h4 => ?_⟩
  · have := C.s
    simp only [fS, tv, Nat.zero_add, Nat.reduceAdd]
    omega
  · have hc : ctB X i q = true := by
      unfold ctB
      rw [hv, hp, decide_eq_false h2, decide_eq_true (show 1 ≤ (q : Int) ∧ (q : Int) ≤ 4 by omega)]
      rfl
    refine ⟨hc, ?_⟩
    unfold ctF
    rw [if_pos hc, Int.toNat_natCast]
end Go.Proofs.Ytckcojgfgcjamaa
set_option maxRecDepth 100000
set_option linter.unusedSimpArgs false
set_option linter.unusedVariables false
namespace Go.Proofs.Ytckcojgfgcjamaa
open Go Go.RowKit
def calm : Kind → Bool
  | .f => true
  | .q => true
  | _ => false
theorem calm_swap {k j : Kind} (hk : calm k = true) (hj : calm j = true) : swapOK k j = true := by
  cases k <;> cases j <;> first | rfl | exact absurd hk (by decide) | exact absurd hj (by decide)
def waits (o : Oper) (i : Nat) : Bool := o.after.toList.any fun e => Region.binds .any e && e.on == i
def linOp (sx : Sx) (base j : Nat) (o : Oper) : Bool :=
  (o.dst == some (base + j)) && calm (kindOf sx o.op) &&
  (o.op.operands.toList.all fun x => match x with | .tmp t => Nat.blt t base || waits o (t - base) | _ => true) &&
  (match o.guard with | some (g, _) => waits o g | none => true) &&
  (o.after.toList.all fun e => !Region.binds .any e || Nat.blt e.on j)
def linL (sx : Sx) (base : Nat) : Nat → List Oper → Bool
  | _, [] => true
  | j, o :: l => linOp sx base j o && linL sx base (j + 1) l
theorem linL_at {sx : Sx} {base : Nat} : ∀ (l : List Oper) (j i : Nat) (o : Oper), linL sx base j l = true → l[i]? = some o → linOp sx base (j + i) o = true
  | [], _, _, _, _, h => by simp at h
  | x :: l, j, 0, o, h, hi => by
    simp only [linL, Bool.and_eq_true] at h
    simp at hi; subst hi; exact h.1
  | x :: l, j, i + 1, o, h, hi => by
    simp only [linL, Bool.and_eq_true] at h
    have := linL_at l (j + 1) i o h.2 (by simpa using hi)
    rw [show j + (i + 1) = j + 1 + i by omega]; exact this
structure LinP (sx : Sx) (base j : Nat) (o : Oper) : Prop where
  d : o.dst = some (base + j)
  k : calm (kindOf sx o.op) = true
  r : ∀ t, Operand.tmp t ∈ o.op.operands.toList → t < base ∨ waits o (t - base) = true
  g : ∀ g b, o.guard = some (g, b) → waits o g = true
  a : ∀ e ∈ o.after.toList, Region.binds .any e = true → e.on < j
theorem linP_of {sx : Sx} {base j : Nat} {o : Oper} (h : linOp sx base j o = true) : LinP sx base j o := by
  simp only [linOp, Bool.and_eq_true, beq_iff_eq] at h
  obtain ⟨⟨⟨⟨h1, h2⟩, h3⟩, h4⟩, h5⟩ := h
  refine ⟨h1, h2, fun t ht => ?_, fun g b hg => ?_, fun e he hb => ?_⟩
  · have := List.all_eq_true.1 h3 _ ht
    simp only [Bool.or_eq_true] at this
    exact this.imp (fun h => Nat.le_of_ble_eq_true h) (fun h => h)
  · rw [hg] at h4; exact h4
  · have := List.all_eq_true.1 h5 e he
    rw [hb] at this
    simp only [Bool.not_true, Bool.false_or] at this
    exact Nat.le_of_ble_eq_true this
theorem LinP.lt {sx : Sx} {base j i : Nat} {o : Oper} (h : LinP sx base j o) (hw : waits o i = true) : i < j := by
  unfold waits at hw
  rw [List.any_eq_true] at hw
  obtain ⟨e, he, hb⟩ := hw
  simp only [Bool.and_eq_true, beq_iff_eq] at hb
  have := h.a e he hb.1
  omega
theorem looks_of {sx : Sx} {base j : Nat} {ops : Array Oper} {o : Oper} (hall : ∀ i oi, ops[i]? = some oi → LinP sx base i oi) (h : LinP sx base j o) {t : Nat} (ht : t ∈ o.looksAt ops) : t < base ∨ ∃ i, t = base + i ∧ waits o i = true := by
  unfold Oper.looksAt at ht
  rcases List.mem_append.1 ht with ht | ht
  · rw [List.mem_filterMap] at ht
    obtain ⟨x, hx, he⟩ := ht
    cases x with
    | tmp t' =>
      simp at he; subst he
      rcases h.r _ hx with h1 | h1
      · exact .inl h1
      · by_cases hb : t' < base
        · exact .inl hb
        · exact .inr ⟨t' - base, (Nat.add_sub_cancel' (Nat.le_of_not_lt hb)).symm, h1⟩
    | _ => simp at he
  · split at ht
    · rename_i g b hg
      cases hog : ops[g]? with
      | none => rw [hog] at ht; simp at ht
      | some og =>
        rw [hog] at ht
        have hd := (hall g og hog).d
        simp [hd] at ht
        subst ht
        exact .inr ⟨g, rfl, h.g g b hg⟩
    · cases ht
theorem depG_direct {ops : Array Oper} {k j : Nat} {listed : Array Bool} {oj : Oper} (hj : ops[j]? = some oj) (h : waits oj k = true) : depG ops k ops.size listed j = true := by
  have hs : 0 < ops.size := Nat.lt_of_le_of_lt (Nat.zero_le _) (Array.getElem?_eq_some_iff.1 hj).1
  obtain ⟨d, hd⟩ : ∃ d, ops.size = d + 1 := ⟨ops.size - 1, by omega⟩
  unfold waits at h
  rw [hd]
  unfold depG
  rw [hj]
  simp only
  rw [List.any_eq_true] at h ⊢
  obtain ⟨e, he, h⟩ := h
  refine ⟨e, he, ?_⟩
  simp only [Bool.and_eq_true, Bool.or_eq_true] at h ⊢
  exact ⟨h.1, .inl h.2⟩
theorem lin_apart {sx : Sx} {base k j : Nat} {ops : Array Oper} {ok oj : Oper} (hall : ∀ i oi, ops[i]? = some oi → LinP sx base i oi) (hk : LinP sx base k ok) (hj : LinP sx base j oj) (hkj : k < j) (hno : ¬ waits oj k = true) : ok.apart ops oj = true := by
  unfold Oper.apart
  rw [hk.d, hj.d]
  simp only [Bool.and_eq_true, Bool.not_eq_true', bne_iff_ne, ne_eq, Option.some.injEq]
  refine ⟨⟨?_, by omega⟩, ?_⟩
  · cases hc : (oj.looksAt ops).contains (base + k) with
    | false => rfl
    | true =>
      exfalso
      have := looks_of hall hj (t := base + k) (by simpa using hc)
      rcases this with h | ⟨i, h1, h2⟩
      · omega
      · obtain rfl : i = k := by omega
        exact hno h2
  · cases hc : (ok.looksAt ops).contains (base + j) with
    | false => rfl
    | true =>
      exfalso
      have := looks_of hall hk (t := base + j) (by simpa using hc)
      rcases this with h | ⟨i, h1, h2⟩
      · omega
      · have := hk.lt h2
        omega
theorem lin_lex {sx : Sx} {base : Nat} {ops : Array Oper} (hall : ∀ i oi, ops[i]? = some oi → LinP sx base i oi) : ∀ (f k : Nat) (listed : Array Bool), f + k = ops.size → listed.size = ops.size → (∀ i, i < ops.size → ∀ d, listed.getD i d = decide (i < k)) → lexG sx ops f k listed = true
  | 0, k, listed, hf, hs, hl => by
    unfold lexG
    rw [List.isEmpty_iff]
    cases hr : Region.ready .any ops listed with
    | nil => rfl
    | cons i r =>
      exfalso
      have hi : i ∈ Region.ready .any ops listed := by rw [hr]; simp
      obtain ⟨hu, oi, hoi, _⟩ := mem_ready.1 hi
      have his : i < ops.size := (Array.getElem?_eq_some_iff.1 hoi).1
      rw [hl i his true, decide_eq_true (by omega)] at hu
      cases hu
  | f + 1, k, listed, hf, hs, hl => by
    have hks : k < ops.size := by omega
    have hok : ops[k]? = some ops[k] := Array.getElem?_eq_getElem hks
    have hk := hall k _ hok
    unfold lexG
    simp only [Bool.and_eq_true]
    refine ⟨⟨?_, ?_⟩, ?_⟩
    · have : k ∈ Region.ready .any ops listed := mem_ready.2 ⟨by rw [hl k hks true]; simp, _, hok, fun e he hb => by
        have := hk.a e (Array.mem_toList_iff.2 he) hb
        rw [hl e.on (by omega) false]
        exact decide_eq_true this⟩
      simpa using this
    · unfold freeG
      rw [hok]
      refine List.all_eq_true.2 fun j hj => ?_
      have hjs := List.mem_range.1 hj
      simp only [Bool.or_eq_true, beq_iff_eq]
      rcases Nat.lt_trichotomy j k with h | h | h
      · exact .inl (.inr (by rw [hl j hjs true]; exact decide_eq_true h))
      · exact .inl (.inl h)
      · refine .inr ?_
        have hoj : ops[j]? = some ops[j] := Array.getElem?_eq_getElem hjs
        rw [hoj]
        have hjp := hall j _ hoj
        simp only [Bool.or_eq_true, Bool.and_eq_true]
        by_cases hw : waits ops[j] k = true
        · exact .inl (depG_direct hoj hw)
        · exact .inr ⟨lin_apart hall hk hjp h hw, calm_swap hk.k hjp.k⟩
    · refine lin_lex hall f (k + 1) _ (by omega) (by simpa using hs) fun i hi d => ?_
      simp only [Array.getD_eq_getD_getElem?, Array.getElem?_setIfInBounds]
      by_cases hik : k = i
      · subst hik
        rw [if_pos rfl, if_pos (by omega)]
        simp
      · rw [if_neg hik]
        have := hl i hi d
        rw [Array.getD_eq_getD_getElem?] at this
        rw [this]
        by_cases h : i < k
        · rw [decide_eq_true h, decide_eq_true (by omega)]
        · rw [decide_eq_false h, decide_eq_false (by omega)]
def linB (sx : Sx) (ops : Array Oper) : Bool := match ops.toList with
  | [] => false
  | o :: l => match o.dst with
    | some b => linL sx b 0 (o :: l)
    | none => false
theorem linB_lex {sx : Sx} {ops : Array Oper} (hn : Region.noSelect ops = true) (h : linB sx ops = true) : lexGB sx ops = true := by
  unfold lexGB
  rw [hn, Bool.true_and]
  unfold linB at h
  split at h
  · cases h
  · rename_i o l hl
    split at h
    · rename_i b hb
      rw [← hl] at h
      refine lin_lex (base := b) (fun i oi hi => ?_) ops.size 0 _ (by omega) (by simp) fun i hi d => ?_
      · have := linL_at ops.toList 0 i oi h (by simpa using hi)
        rw [Nat.zero_add] at this
        exact linP_of this
      · simp [Array.getD_eq_getD_getElem?, hi]
    · cases h
def regQ (sx : List Nat) (ops : Array Oper) : Option RM → Bool
  | none => (Region.noSelect ops && linB ⟨sx, false⟩ ops) || lexGB ⟨sx, false⟩ ops
  | some r => regOK sx ops (some r)
theorem regQ_le {sx : List Nat} {ops : Array Oper} {r : Option RM} (h : regQ sx ops r = true) : regOK sx ops r = true := by
  cases r with
  | none =>
    simp only [regQ, regOK, Bool.or_eq_true, Bool.and_eq_true] at h ⊢
    rcases h with h | h
    · exact linB_lex h.1 h.2
    · exact h
  | some r => exact h
def codeQ (sx : List Nat) (hr : List (Nat × RM)) (N : Nat) : Code → Bool
  | .region id ops draw => dstsOK N ops.toList && (!draw || regQ sx ops (hr.lookup id))
  | .seq a b => codeQ sx hr N a && codeQ sx hr N b
  | .cond _ x y => codeQ sx hr N x && codeQ sx hr N y
  | .block _ c => codeQ sx hr N c
  | .loop c => codeQ sx hr N c
  | _ => true
theorem codeQ_le {sx : List Nat} {hr : List (Nat × RM)} {N : Nat} : ∀ c : Code, codeQ sx hr N c = true → codeOK sx hr N c = true := by
  intro c
  induction c with
  | region i ops draw =>
    intro h
    simp only [codeQ, codeOK, Bool.and_eq_true, Bool.or_eq_true] at h ⊢
    exact ⟨h.1, h.2.imp (fun x => x) regQ_le⟩
  | seq a b iha ihb => intro h; simp only [codeQ, codeOK, Bool.and_eq_true] at h ⊢; exact ⟨iha h.1, ihb h.2⟩
  | cond t x y ihx ihy => intro h; simp only [codeQ, codeOK, Bool.and_eq_true] at h ⊢; exact ⟨ihx h.1, ihy h.2⟩
  | block id c ih => intro h; simp only [codeQ, codeOK] at h ⊢; exact ih h
  | loop c ih => intro h; simp only [codeQ, codeOK] at h ⊢; exact ih h
  | _ => intro _; rfl
end Go.Proofs.Ytckcojgfgcjamaa
set_option maxRecDepth 100000
set_option linter.unusedSimpArgs false
set_option linter.unusedVariables false
namespace Go.Proofs.Ytckcojgfgcjamaa
open Go Go.RowKit
theorem fn_3 : FnOK Try.prog 3 Try.f3 (Try.f3.body.getD .skip) [] [] := ⟨Try.func3, rfl, codeQ_le _ (by kernel_rfl), by kernel_rfl⟩
end Go.Proofs.Ytckcojgfgcjamaa
set_option maxRecDepth 100000
set_option linter.unusedSimpArgs false
set_option linter.unusedVariables false
namespace Go.Proofs.Ytckcojgfgcjamaa
open Go Go.RowKit
/-! Sources. -/
--@tbl vSources = laws.vSources
/-! Racks. -/
--@tbl vRacks = laws.vRacks
/-! Pairs. -/
--@tbl vPairs = laws.vPairs
end Go.Proofs.Ytckcojgfgcjamaa
set_option maxRecDepth 100000
set_option linter.unusedSimpArgs false
set_option linter.unusedVariables false
namespace Go.Proofs.Ytckcojgfgcjamaa
open Go Go.RowKit
/-- A list of numbers L, len parts of es numbers, whose block (if there is one) lies from lo on and before hi. -/
structure SlA (v : SV) (L : List Int) (len es e lo hi : Nat) (H : Heap) : Prop where
  kn : v.known = true
  oc : oneCellS v = true
  ln : L.length = len * es
  at_ : (v = .nils ∧ len = 0) ∨ ∃ (b cap : Nat) (junk : List Int), v = .slice b 0 len cap ∧ lo ≤ b ∧ b < hi ∧ hget H b = some (.ints (L ++ junk) e)
theorem SlA.up {v : SV} {L : List Int} {len es e lo hi : Nat} {H H' : Heap} (h : SlA v L len es e lo hi H) (hf : ∀ i o, i < hi → hget H i = some o → hget H' i = some o) : SlA v L len es e lo hi H' :=
  ⟨h.kn, h.oc, h.ln, by
    rcases h.at_ with h1 | ⟨b, cap, junk, h1, h2, h3, h4⟩
    · exact .inl h1
    · exact .inr ⟨b, cap, junk, h1, h2, h3, hf _ _ h3 h4⟩⟩
theorem SlA.wk {v : SV} {L : List Int} {len es e lo hi lo' hi' : Nat} {H : Heap} (h : SlA v L len es e lo hi H) (h1 : lo' ≤ lo) (h2 : hi ≤ hi') : SlA v L len es e lo' hi' H :=
  ⟨h.kn, h.oc, h.ln, by
    rcases h.at_ with h3 | ⟨b, cap, junk, g1, g2, g3, g4⟩
    · exact .inl h3
    · exact .inr ⟨b, cap, junk, g1, by omega, by omega, g4⟩⟩
theorem SlA.wfv {v : SV} {L : List Int} {len es e lo hi n : Nat} {H : Heap} (h : SlA v L len es e lo hi H) (h2 : hi ≤ n) : v.wf n := by
  rcases h.at_ with ⟨rfl, _⟩ | ⟨b, cap, junk, rfl, g2, g3, g4⟩
  · trivial
  · show b < n; omega
theorem SlA.len {v : SV} {L : List Int} {len es e lo hi : Nat} {H0 : Heap} (h : SlA v L len es e lo hi H0) (e' s b : Nat) (z : SV) (H : Heap) (n : Nat) (κ : K1) : lenVC ⟨.sl e', s, b, z⟩ v H n κ = κ (.int (len : Int)) H n := by
  rcases h.at_ with ⟨rfl, rfl⟩ | ⟨b, cap, junk, rfl, g2, g3, g4⟩ <;> rfl
theorem Kpt.trans {n n1 n2 : Nat} {H H1 H2 : Heap} (h : Kpt n H H1 n1) (h' : Kpt n1 H1 H2 n2) : Kpt n H H2 n2 := ⟨Nat.le_trans h.le h'.le, h'.wf, fun i o hi ho => h'.fr i o (by have := h.le; omega) (h.fr i o hi ho)⟩
theorem Kpt.push {n n1 : Nat} {H H1 : Heap} (h : Kpt n H H1 n1) {L : List Int} {e : Nat} : Kpt n H ((n1, .ints L e) :: H1) (n1 + 1) :=
  ⟨by have := h.le; omega, hwf_cons (hwf_mono (Nat.le_succ _) h.wf) (Nat.lt_succ_self _) trivial, fun i o hi ho => by rw [hget_cons, if_neg (by have := h.le; omega)]; exact h.fr i o hi ho⟩
theorem Kpt.put {n n1 b : Nat} {H H1 : Heap} (h : Kpt n H H1 n1) (hb : n ≤ b ∧ b < n1) {L : List Int} {e : Nat} : Kpt n H ((b, .ints L e) :: H1) n1 :=
  ⟨h.le, hwf_cons h.wf hb.2 trivial, fun i o hi ho => by rw [hget_cons, if_neg (by omega)]; exact h.fr i o hi ho⟩
theorem Kpt.refl {n : Nat} {H : Heap} (h : hwf n H) : Kpt n H H n := ⟨Nat.le_refl _, h, fun _ _ _ h => h⟩
end Go.Proofs.Ytckcojgfgcjamaa
set_option maxRecDepth 100000
set_option linter.unusedSimpArgs false
set_option linter.unusedVariables false
namespace Go.Proofs.Ytckcojgfgcjamaa
open Go Go.RowKit
section
variable {P : Program} {τ : Tys} {B : Nat → Nat} {M : Nat → Prop} {m n : Nat} {w : World} {H : Heap} {κ : K1}
def byV (L : List Int) : List SV := L.map fun x => .lit (.int .u8 x)
def byC (L : List Int) : Array Value := (L.map (Value.int .u8)).toArray
theorem byV_den (B : Nat → Nat) (L : List Int) (e : Nat) : (SObj.cells (byV L) e).den B = .cells (byC L) e (0, 0) := by
  simp [SObj.den, byV, byC, denL_map, SV.den, Function.comp_def]
theorem byV_wf (n : Nat) (L : List Int) (e : Nat) : (SObj.cells (byV L) e).wf n := by
  simp only [SObj.wf]
  rw [wfL_iff]
  intro v hv
  obtain ⟨x, _, rfl⟩ := List.mem_map.1 hv
  trivial
theorem zero_u8 (k : Nat) : Builtin.zeroCells ([Value.int .u8 0].toArray) k = byC (List.replicate k 0) := by
  unfold Builtin.zeroCells byC
  apply Array.ext'
  simp only [Array.toList_map, Array.toList_range, List.size_toArray, List.length_cons, List.length_nil, Nat.zero_add, Nat.mod_one, List.map_replicate]
  rw [List.eq_replicate_iff]
  refine ⟨by simp, fun b hb => ?_⟩
  obtain ⟨i, _, rfl⟩ := List.mem_map.1 hb
  rfl
/-- What is known of the type of bytes. -/
structure U8 (τ : Tys) (e : Nat) : Prop where
  k : (τ e).k ≠ .other
  z : (τ e).z = .lit (.int .u8 0)
  size : (τ e).size = 1
  bytes : (τ e).bytes = 1
theorem appU_sound {t ty e : TypeId} {x : SV} {a : Addr} {k c b len : Nat} {L news : List Int} (hτ : TysOK P τ) (hu : U8 τ e) (hk : (τ t).k = .sl e) (hH : HR B H w) (hw : hwf n H) (hown : Own M m B H) (hM : M w.heap.size)
    (hg : hget H b = some (.cells (byV L) e)) (hm : m ≤ b) (hlc : len ≤ L.length) (hx : x.den B = .slice (some a) k c) (hk0 : 0 < k) (hnl : news.length = k) (hnews : ∀ j u, (news.map (Value.int .u8))[j]? = some u → w.cell? (a.add j) = some u) (hsz : len + k ≤ 140737488355328)
    (hκ : ∀ junk : List Int, κ (.slice n 0 (len + k) (len + k + junk.length)) ((n, .cells (byV (L.take len ++ news ++ junk)) e) :: (b, .dead) :: H) (n + 1)) :
    EffRes P B M m n w (do pure (.value (← Builtin.append_ ([t, t].toArray) ty ([(SV.slice b 0 len L.length).den B, x.den B].toArray)))) κ := by
  obtain ⟨i, hi, his, hib, hzi⟩ := ty_info hτ hu.k
  rw [hu.size] at his
  rw [hu.bytes] at hib
  have hzi' := hzi (by rw [hu.z]; rfl)
  rw [hu.z] at hzi'
  have hsl := und_sl hτ hk
  have hb := hH.at_ b _ hg rfl
  have hb : w.heap[B b]? = some (.cells (byC L) e (0, 0)) := by rw [← byV_den B]; exact hb
  rw [hx]
  simp only [SV.den]
  by_cases hroom : len + k ≤ L.length
  · have hr := run_append_room (P := P) w t ty e i hsl hi (B b) len L.length (byC L) hb a k c (news.map (Value.int .u8)) (by simp [hnl, his]) hnews (by intro u hu; simp at hu; obtain ⟨x, _, rfl⟩ := hu; rfl) hroom (by rw [his]; simp [hnl, byC]; omega)
    have e1 : (((byC L).toList.take (len * i.size) ++ news.map (Value.int .u8) ++ (byC L).toList.drop (len * i.size + (news.map (Value.int .u8)).length)).toArray) = byC (L.take len ++ news ++ L.drop (len + k)) := by
      rw [his]; simp [byC, hnl, List.map_take, List.map_drop]
    rw [e1] at hr
    have hlen : len + k + (L.drop (len + k)).length = L.length := by rw [List.length_drop]; omega
    have h6 := hκ (L.drop (len + k))
    rw [hlen] at h6
    refine ⟨_, _, n + 1, upd B n (B b), .slice (some ⟨B b, 0, none⟩) (len + k) L.length, _, h6, by omega, by simp [SV.wf], ?_, upd_lt _ _ _, HR.move (cs := byC (L.take len ++ news ++ L.drop (len + k))) hH hw hg rfl hb (byV_den _ _ _) rfl, Kept.setRow w _ _ (hown b _ hg rfl hm), ?_, fun _ => by simp [SV.den, upd_self], .inl (by simp [hr])⟩
    · exact hwf_cons (hwf_cons (hwf_mono (by omega) hw) (by have := (hw b _ hg).1; omega) trivial) (by omega) (byV_wf _ _ _)
    · exact Own.new (hown.kill b) (hwf_cons hw (hw b _ hg).1 trivial) (hown b _ hg rfl hm)
  · have holds : ∀ j u, ((L.take len).map (Value.int .u8))[j]? = some u → w.cell? ((⟨B b, 0, none⟩ : Addr).add j) = some u := by
      intro j u hj
      rw [add_addr]
      refine cell_at hb ?_
      have hjl : j < len := by
        rcases Nat.lt_or_ge j len with h | h
        · exact h
        · rw [List.getElem?_eq_none (by simp; omega)] at hj; cases hj
      rw [List.getElem?_map, List.getElem?_take, if_pos hjl] at hj
      rw [Nat.zero_add]
      simpa [byC] using hj
    have hr := run_append_grow (P := P) w t ty e i _ hsl hi hzi' ⟨B b, 0, none⟩ len L.length ((L.take len).map (Value.int .u8)) (by simp [his]; omega) holds a k c (news.map (Value.int .u8)) (by simp [hnl, his]) hnews (by omega) (by omega) (by rw [hib]; exact growslice_fits (by omega) (by omega))
    have hc := grownCap_ge w (len + k) L.length e
    have e1 : ((L.take len).map (Value.int .u8)).toArray ++ (news.map (Value.int .u8)).toArray ++ Builtin.zeroCells (Value.cells ((SV.lit (.int .u8 0)).den fun _ => 0)) (grownCap w (len + k) L.length e - (len + k)) = byC (L.take len ++ news ++ List.replicate (grownCap w (len + k) L.length e - (len + k)) 0) := by
      have hzc : Value.cells ((SV.lit (.int .u8 0)).den fun _ => 0) = ([Value.int .u8 0].toArray) := rfl
      rw [hzc, zero_u8]; simp [byC, List.map_take]
    rw [e1] at hr
    have hlen : len + k + (List.replicate (grownCap w (len + k) L.length e - (len + k)) (0 : Int)).length = grownCap w (len + k) L.length e := by
      rw [List.length_replicate]; omega
    have h6 := hκ (List.replicate (grownCap w (len + k) L.length e - (len + k)) 0)
    rw [hlen] at h6
    refine res_new (o := .cells (byV (L.take len ++ news ++ List.replicate (grownCap w (len + k) L.length e - (len + k)) 0)) e) (x := .slice (some ⟨w.heap.size, 0, none⟩) (len + k) (grownCap w (len + k) L.length e)) (hH.kill b) (hwf_cons hw (hw b _ hg).1 trivial) (hown.kill b) hM rfl rfl (byV_wf _ _ _) h6 (by simp [SV.wf]) (by simp [SV.den, upd_self]) (w.drew.alloc (.cells (byC (L.take len ++ news ++ List.replicate (grownCap w (len + k) L.length e - (len + k)) 0)) e)) (by rw [byV_den]; rfl) ((Kept.drew w).trans (Kept.alloc _ _)) (by simp [hr])
/-- Nothing is appended. -/
theorem appE_sound {t ty e : TypeId} {x : SV} {b len cap : Nat} (hτ : TysOK P τ) (hu : U8 τ e) (hk : (τ t).k = .sl e) (hH : HR B H w) (hw : hwf n H) (hown : Own M m B H) (hs : (SV.slice b 0 len cap).wf n) (hlc : len ≤ cap)
    (hx0 : (∃ a c, x.den B = .slice (some a) 0 c) ∨ x.den B = .slice none 0 0) (hκ : κ (.slice b 0 len cap) H n) :
    EffRes P B M m n w (do pure (.value (← Builtin.append_ ([t, t].toArray) ty ([(SV.slice b 0 len cap).den B, x.den B].toArray)))) κ := by
  have hsl := und_sl hτ hk
  have hfc : ∀ w', (Builtin.firstCells (τ e).size 0 (x.den B)).run P w' = .ok ([].toArray) w' := fun w' => by
    rcases hx0 with ⟨a, c, e⟩ | e <;> rw [e] <;> simp [Builtin.firstCells, loadCells, loadCellsFrom]
  have hlo : ∀ w', (Builtin.lenOf (x.den B)).run P w' = .ok 0 w' := fun w' => by
    rcases hx0 with ⟨a, c, e⟩ | e <;> rw [e] <;> simp [Builtin.lenOf]
  refine ⟨.slice b 0 len cap, H, n, B, .slice (some ⟨B b, 0, none⟩) len cap, w, hκ, Nat.le_refl _, hs, hw, fun _ _ => rfl, hH, Kept.refl _ _, hown, fun _ => rfl, .inl ?_⟩
  simp [SV.den, Builtin.append_, run_underlying hsl, run_info hτ hu.k, hlo, hfc, hlc, storeCells]
theorem bs0_sound {t e : TypeId} (hτ : TysOK P τ) (hu : U8 τ e) (hk : (τ t).k = .sl e) (hH : HR B H w) (hw : hwf n H) (hown : Own M m B H) (hM : M w.heap.size) (hκ : κ (.slice n 0 0 0) ((n, .cells (byV []) e) :: H) (n + 1)) :
    EffRes P B M m n w (do pure (.value (← Instr.buildSlice t 0 ([].toArray)))) κ := by
  refine res_new (o := .cells (byV []) e) (x := .slice (some ⟨w.heap.size, 0, none⟩) 0 0) hH hw hown hM rfl rfl (byV_wf _ _ _) hκ (by simp [SV.wf]) (by simp [SV.den, upd_self]) (w.alloc (.cells ([].toArray) e)) (by rw [byV_den]; rfl) (Kept.alloc _ _) ?_
  have hr0 : ∀ f : Nat → Value, (Array.range 0).map f = ([].toArray) := fun f => by apply Array.ext'; simp
  simp [hr0, Instr.buildSlice, Sem.run_bind, run_underlying (und_sl hτ hk), run_info hτ hu.k, hu.size, run_newRow', Instr.fill]
theorem bs1_sound {t e : TypeId} {y : Int} (hτ : TysOK P τ) (hu : U8 τ e) (hk : (τ t).k = .sl e) (hH : HR B H w) (hw : hwf n H) (hown : Own M m B H) (hM : M w.heap.size) (hκ : κ (.slice n 0 1 1) ((n, .cells (byV [y]) e) :: H) (n + 1)) :
    EffRes P B M m n w (do pure (.value (← Instr.buildSlice t 1 ([(0, .int .u8 y)].toArray)))) κ := by
  refine res_new (o := .cells (byV [y]) e) (x := .slice (some ⟨w.heap.size, 0, none⟩) 1 1) hH hw hown hM rfl rfl (byV_wf _ _ _) hκ (by simp [SV.wf]) (by simp [SV.den, upd_self]) (w.alloc (.cells ([.int .u8 y].toArray) e)) (by rw [byV_den]; rfl) (Kept.alloc _ _) ?_
  obtain ⟨i, hi, his, hib, hzi⟩ := ty_info hτ hu.k
  have hz' := hzi (by rw [hu.z]; rfl)
  rw [hu.z] at hz'
  have hz : (zeroValue e).run P w = .ok (.int .u8 0) w := by simp [zeroValue, typeInfo, hi, hz', SV.den]
  have hrow : Builtin.zeroCells ([Value.int .u8 0].toArray) 1 = ([Value.int .u8 0].toArray) := by rw [zero_u8]; rfl
  have hrow : ([Value.int .u8 0].toArray) = (Array.range 1).map (fun i => ([Value.int .u8 0].toArray)[i % ([Value.int .u8 0].toArray).size]!) := by
    apply Array.ext'
    simp only [Array.toList_map, Array.toList_range, List.size_toArray, List.length_cons, List.length_nil, Nat.zero_add, Nat.mod_one]
    rfl
  have hf : Instr.fill (fun i => some (i * 1, 1)) ([Value.int .u8 0].toArray) [(0, Value.int .u8 y)] = some ([Value.int .u8 y].toArray) := by rfl
  have hzc : Value.cells (Value.int .u8 0) = ([Value.int .u8 0].toArray) := rfl
  have h1 : ¬ (1 * 1 > 2 ^ 24) := by simp
  have h2 : ¬ (1 * 1 = 0) := by simp
  simp only [Instr.buildSlice, Sem.run_bind, run_underlying (und_sl hτ hk), Result.andThen_ok, run_info hτ hu.k, hu.size, h1, h2, if_false, hz, Sem.run_pure, hzc, ← hrow, hf, run_newRow']
end
end Go.Proofs.Ytckcojgfgcjamaa
set_option maxRecDepth 100000
set_option linter.unusedSimpArgs false
set_option linter.unusedVariables false
namespace Go.Proofs.Ytckcojgfgcjamaa
open Go Go.RowKit
section
variable {X : Cx} {N p : Nat} {M : Nat → Prop} {S : Env} {H : Heap} {n : Nat} {B : Nat → Nat} {a : Act} {w : World} {κ : K1} {o : Oper} {rest : List Oper} {Q : Exit → Act → World → Prop}
theorem ops_eff (all : Array Oper) (hd : dstsOK N (o :: rest) = true) (hgd : o.guard = none) (hg : Gs X N p M S H n B a w) (he : EffRes X.P B M X.m n w (execOp a.eval o) κ)
    (hK : ∀ v H' n' B' a' w', κ v H' n' → Gs X N p M (sput S o.dst v) H' n' B' a' w' → Rel p M B w B' w' → wpList X.P all Q rest a' w') : wpList X.P all Q (o :: rest) a w := by
  obtain ⟨v, H', n', B', x, w', g1, g2, g3, g4, g5, g6, g7, g8, g9, g10⟩ := he
  obtain ⟨hg', hr⟩ := hg.put o.dst (dstsOK_head hd) (⟨g2, g3, g4, g5, g6, g8, g7⟩ : Aft B M X.m n w v H' n' B' w') g9
  have := hK v H' n' B' _ w' g1 hg' hr
  unfold wpList
  rw [if_pos (by simp [Region.wanted, hgd])]
  left
  unfold Oper.wp
  rcases g10 with g10 | ⟨g10, rfl⟩ <;> rw [g10] <;> exact this
theorem ops_norm (hX : CxOK X) (all : Array Oper) {q : Bool} (hd : dstsOK N (o :: rest) = true) (hgd : o.guard = none) (hg : Gs X N p M S H n B a w) (h : opVC X q o.op S H n κ)
    (hK : ∀ v H' n' B' a' w', κ v H' n' → Gs X N p M (sput S o.dst v) H' n' B' a' w' → Rel p M B w B' w' → wpList X.P all Q rest a' w') : wpList X.P all Q (o :: rest) a w := by
  unfold wpList
  rw [if_pos (by simp [Region.wanted, hgd])]
  left
  refine op_sound hX hg.sr hg.swf hg.hr hg.hwf hg.own hg.new h fun v H' n' B' w' x hκ ha hx => ?_
  obtain ⟨hg', hr⟩ := hg.put o.dst (dstsOK_head hd) ha hx
  exact hK v H' n' B' _ w' hκ hg' hr
theorem exec_app {P : Program} {m : Nat} {c : Call} {t : TypeId} {s x : Value} (ho : o.op = .call c) (hb : c.callee = .builtin .append) (hm : c.args.map a.eval = ([s, x].toArray)) (hts : c.argTypes = ([t, t].toArray))
    (h : EffRes P B M m n w (do pure (.value (← Builtin.append_ ([t, t].toArray) o.type ([s, x].toArray)))) κ) : EffRes P B M m n w (execOp a.eval o) κ := by
  obtain ⟨v, H', n', B', xx, w', g1, g2, g3, g4, g5, g6, g7, g8, g9, g10⟩ := h
  refine ⟨v, H', n', B', xx, w', g1, g2, g3, g4, g5, g6, g7, g8, g9, ?_⟩
  unfold execOp
  simp only [ho, resolve, hb, hm]
  rcases g10 with g10 | g10
  · refine .inl ?_
    simp only [Sem.run_bind] at g10
    simp [invoke, builtin, hts]
    exact g10
  · refine .inr ⟨?_, g10.2⟩
    have g10 := g10.1
    simp only [Sem.run_bind] at g10
    simp [invoke, builtin, hts]
    exact g10
theorem exec_bs {P : Program} {m : Nat} {t : TypeId} {len : Nat} {parts : Array (Nat × Operand)} {vs : Array (Nat × Value)} (ho : o.op = .buildSlice t len parts) (hv : (parts.map fun (x : Nat × Operand) => (x.1, a.eval x.2)) = vs)
    (h : EffRes P B M m n w (do pure (.value (← Instr.buildSlice t len vs))) κ) : EffRes P B M m n w (execOp a.eval o) κ := by
  unfold execOp
  simp only [ho, hv]
  exact h
end
end Go.Proofs.Ytckcojgfgcjamaa
set_option maxRecDepth 100000
set_option linter.unusedSimpArgs false
set_option linter.unusedVariables false
namespace Go.Proofs.Ytckcojgfgcjamaa
open Go Go.RowKit
theorem run_of_wp {X : Cx} {f : FuncId} {fn : Func} {c : Code} (hf : FnOK X.P f fn c X.sx X.hr) (hX : CxOK X) {p n0 : Nat} {args : List SV} {H0 : Heap} {κ : K1} (hN : args.length ≤ fn.ntmps) (hwa : wfL n0 args) (hwH : hwf n0 H0) (hp : p ≤ n0)
    (B : Nat → Nat) (M : Nat → Prop) (w : World) (hH : HR B H0 w) (hown : Own M X.m B H0) (hM : ∀ i, w.heap.size ≤ i → M i)
    (h : ∀ (a : Act) (Q : Exit → Act → World → Prop), Gs X fn.ntmps p M (argS 0 args) H0 n0 B a w → (∀ S' H' n' B' a' w', resVC X.τ S' H' n' κ fn.results.toList [] → Gs X fn.ntmps p M S' H' n' B' a' w' → Rel p M B w B' w' → Q .ret a' w') → c.wp X.P Q a w) :
    Calls X.P f (denL B args).toArray w fun e w' => ∃ v H' n' B', e = .returned (v.den B') ∧ κ v H' n' ∧ v.wf n' ∧ hwf n' H' ∧ HR B' H' w' ∧ Own M X.m B' H' ∧ Kept M w w' ∧ (∀ k, k < p → B' k = B k) ∧ p ≤ n' := by
  refine calls_of_wp hf.get hf.body ?_
  have hlen : (denL B args).toArray.size = args.length := by simp
  have hg : Gs X fn.ntmps p M (argS 0 args) H0 n0 B { tmps := (denL B args).toArray ++ Array.replicate (fn.ntmps - (denL B args).toArray.size) undef, defers := [] } w := by
    refine ⟨⟨by simp; omega, rfl, fun t v hl hk => ?_⟩, fun t v hl => ?_, hH, hwH, hown, hM, hp⟩
    · rw [argS_lookup] at hl
      simp at hl
      have ht : t < args.length := (List.getElem?_eq_some_iff.1 hl).1
      rw [Array.getElem?_append_left (by simpa using ht)]
      simp [denL_map, hl]
    · rw [argS_lookup] at hl
      simp at hl
      exact (wfL_iff n0 args).1 hwa v (List.mem_of_getElem? hl)
  refine h _ _ hg fun S' H' n' B' a' w' k g r => ?_
  obtain ⟨l, h1, h2, h3, h4⟩ := res_sound (P := X.P) hX.τ g.sr g.swf g.hr g.hwf _ [] k (by simp)
  have := results_run (fn := fn) h4 (by simpa using h1)
  refine ⟨g.sr.df, _, this, packR l, H', n', B', ?_, by simpa using h2, wf_packR fun v hv => (h3 v hv).1, g.hwf, g.hr, g.own, r.kept, r.ag, g.p⟩
  rw [den_packR]
/-- A slice's room is not less than its length. -/
def capOK : SV → Prop
  | .slice _ _ len cap => len ≤ cap
  | _ => True
/-- What is known of the code and the number of bytes that go. -/
def CutV (cv : SV) (H : Heap) (j : Nat) : Prop := (cv = .nils ∧ j = 0) ∨ ∃ (kc off len cap : Nat) (L : List Int), cv = .slice kc off len cap ∧ hget H kc = some (.winU off L) ∧ L.length = len ∧ len ≤ 1000000000 ∧ (∀ x ∈ L, 0 ≤ x ∧ x ≤ 255) ∧ len ≤ cap ∧ j ≤ len ∧ (j = 0 → len = 0)
/-- What comes of the cut. -/
def CutR (n : Nat) (H : Heap) (v : SV) (H' : Heap) (n' : Nat) : Prop := ∃ (b len : Nat) (L : List Int), v = .slice b 0 len L.length ∧ n ≤ b ∧ hget H' b = some (.cells (byV L) 5) ∧ len ≤ L.length ∧ len ≤ 1000000000 ∧ (∀ x ∈ L.take len, 0 ≤ x ∧ x ≤ 255) ∧ n ≤ n' ∧ ∀ i o, i < n → hget H i = some o → hget H' i = some o
theorem u8_tys : U8 tys 5 := ⟨fun h => (nomatch (show Kd.num .u8 = Kd.other from h)), rfl, rfl, rfl⟩
section
variable {X : Cx} {N p : Nat} {M : Nat → Prop} {S : Env} {H : Heap} {n : Nat} {B : Nat → Nat} {a : Act} {w : World}
/-- The middle state: what is left of the code lies in a block of its own. -/
def CutM (n : Nat) (H : Heap) (k : Nat) (v : SV) (H' : Heap) (n' : Nat) : Prop := ∃ (b : Nat) (L : List Int), v = .slice b 0 k L.length ∧ n ≤ b ∧ hget H' b = some (.cells (byV L) 5) ∧ k ≤ L.length ∧ (∀ x ∈ L.take k, 0 ≤ x ∧ x ≤ 255) ∧ n ≤ n' ∧ ∀ i o, i < n → hget H i = some o → hget H' i = some o
theorem fnx_vCut : FnOK Try.prog 12 Try.f12 (Try.f12.body.getD .skip) [] [] := ⟨Try.func12, rfl, by kernel_rfl, by kernel_rfl⟩
theorem win_src {kc off j k : Nat} {L : List Int} (hH : HR B H w) (hg : hget H kc = some (.winU off L)) (hk : j + k ≤ L.length) : ∀ i u, (((L.drop j).take k).map (Value.int .u8))[i]? = some u → w.cell? ((⟨B kc, off + j, none⟩ : Addr).add i) = some u := by
  obtain ⟨c, e, fz, h1, h2⟩ := hH.at_ kc _ hg rfl
  intro i u hu
  rw [add_addr]
  refine cell_at h1 ?_
  have hi : i < k := by
    rcases Nat.lt_or_ge i k with h | h
    · exact h
    · rw [List.getElem?_eq_none (by simp; omega)] at hu; cases hu
  have h3 := h2 (j + i) (by omega)
  rw [List.getElem?_map, List.getElem?_take, if_pos hi, List.getElem?_drop, List.getElem?_eq_getElem (by omega)] at hu
  rw [List.getD_eq_getElem?_getD, List.getElem?_eq_getElem (by omega)] at h3
  rw [Nat.add_assoc, h3]
  simpa using hu
theorem byt_src {b e : Nat} {y : Int} (hH : HR B H w) (hg : hget H b = some (.cells (byV [y]) e)) : ∀ i u, ([y].map (Value.int .u8))[i]? = some u → w.cell? ((⟨B b, 0, none⟩ : Addr).add i) = some u := by
  have hb := hH.at_ b _ hg rfl
  have hb : w.heap[B b]? = some (.cells (byC [y]) e (0, 0)) := by rw [← byV_den B]; exact hb
  intro i u hu
  rw [add_addr]
  refine cell_at hb ?_
  rw [Nat.zero_add]
  simpa [byC] using hu
/-- What is left of the code is laid into a new block. -/
theorem cut_app {P : Program} {ty : TypeId} {k j m : Nat} {x : SV} (hτ : TysOK P tys) {H0 : Heap} {n0 : Nat} (hH : HR B ((n0, .cells (byV []) 5) :: H0) w) (hw0 : hwf n0 H0) (hown : Own M m B ((n0, .cells (byV []) 5) :: H0)) (hM : M w.heap.size) (hm : m ≤ n0)
    (hc : (k = 0 ∧ (x = .nils ∨ ∃ b o c, x = .slice b o 0 c)) ∨ (0 < k ∧ ∃ (kc off c : Nat) (L : List Int), x = .slice kc (off + j) k c ∧ hget H0 kc = some (.winU off L) ∧ j + k = L.length ∧ (∀ x ∈ L, 0 ≤ x ∧ x ≤ 255) ∧ k ≤ 1000000000)) :
    EffRes P B M m (n0 + 1) w (do pure (.value (← Builtin.append_ ([22, 22].toArray) ty ([(SV.slice n0 0 0 0).den B, x.den B].toArray)))) (fun v H' n' => CutM n0 H0 k v H' n') := by
  have hw : hwf (n0 + 1) ((n0, .cells (byV []) 5) :: H0) := hwf_cons (hwf_mono (by omega) hw0) (by omega) (byV_wf _ _ _)
  have fr0 : ∀ i o, i < n0 → hget H0 i = some o → hget ((n0, SObj.cells (byV []) 5) :: H0) i = some o := fun i o hi ho => by rw [hget_cons, if_neg (by omega)]; exact ho
  rcases hc with ⟨rfl, hx⟩ | ⟨hk, kc, off, c, L, rfl, hg, hl, hb, hk9⟩
  · refine appE_sound (e := 5) hτ u8_tys rfl hH hw hown (by simp [SV.wf]) (Nat.le_refl 0) ?_ ?_
    · rcases hx with rfl | ⟨b, o, c, rfl⟩
      · exact .inr rfl
      · exact .inl ⟨_, _, rfl⟩
    · exact ⟨n0, [], rfl, Nat.le_refl _, by simp [hget_cons], Nat.zero_le _, fun x hx => by simp at hx, by omega, fr0⟩
  · have hkc := (hw0 _ _ hg).1
    have hl2 : ((L.drop j).take k).length = k := by rw [List.length_take, List.length_drop]; omega
    refine appU_sound (e := 5) (L := []) (news := (L.drop j).take k) (k := k) hτ u8_tys rfl hH hw hown hM (b := n0) (by simp [hget_cons]) hm (Nat.le_refl 0) rfl hk hl2 (win_src hH (fr0 _ _ hkc hg) (by omega)) (by omega) fun junk => ?_
    have e1 : (0 : Nat) + k = k := Nat.zero_add k
    rw [e1]
    refine ⟨n0 + 1, (L.drop j).take k ++ junk, ?_, by omega, by simp [hget_cons], by rw [List.length_append]; omega, fun x hx => ?_, by omega, fun i o hi ho => ?_⟩
    · rw [List.length_append, hl2]
    · rw [List.take_left' hl2] at hx
      exact hb x (List.mem_of_mem_drop (List.mem_of_mem_take hx))
    · rw [hget_cons, if_neg (by omega), hget_cons, if_neg (by omega)]
      exact fr0 i o hi ho
/-- One byte is laid behind. -/
theorem cut_one {P : Program} {ty : TypeId} {k m b b2 : Nat} {y : Int} {L : List Int} (hτ : TysOK P tys) {H0 H1 : Heap} {n0 n1 : Nat} (hH : HR B H1 w) (hw : hwf n1 H1) (hown : Own M m B H1) (hM : M w.heap.size) (hm : m ≤ n0) (hb : n0 ≤ b) (hn : n0 ≤ n1)
    (hg : hget H1 b = some (.cells (byV L) 5)) (hlc : k ≤ L.length) (hbs : ∀ x ∈ L.take k, 0 ≤ x ∧ x ≤ 255) (hg2 : hget H1 b2 = some (.cells (byV [y]) 5)) (hy : 0 ≤ y ∧ y ≤ 255) (hk9 : k + 1 ≤ 1000000000) (hfr : ∀ i o, i < n0 → hget H0 i = some o → hget H1 i = some o) :
    EffRes P B M m n1 w (do pure (.value (← Builtin.append_ ([22, 22].toArray) ty ([(SV.slice b 0 k L.length).den B, (SV.slice b2 0 1 1).den B].toArray)))) (fun v H' n' => CutR n0 H0 v H' n') := by
  refine appU_sound (e := 5) (L := L) (news := [y]) (k := 1) hτ u8_tys rfl hH hw hown hM (b := b) hg (by omega) hlc rfl (by omega) rfl (byt_src hH hg2) (by omega) fun junk => ?_
  have hl : (L.take k ++ [y]).length = k + 1 := by rw [List.length_append, List.length_take]; simp; omega
  refine ⟨n1, k + 1, L.take k ++ [y] ++ junk, ?_, hn, by simp [hget_cons], by rw [List.length_append]; omega, hk9, fun x hx => ?_, by omega, fun i o hi ho => ?_⟩
  · rw [List.length_append, hl]
  · rw [List.take_left' hl] at hx
    rcases List.mem_append.1 hx with hx | hx
    · exact hbs x hx
    · simp at hx; subst hx; exact hy
  · rw [hget_cons, if_neg (by omega), hget_cons, if_neg (by omega)]
    exact hfr i o hi ho
end
theorem HR.win {B : Nat → Nat} {H : Heap} {w : World} {b len e : Nat} {L : List Int} (h : HR B H w) (hg : hget H b = some (.cells (byV L) e)) (hl : len ≤ L.length) : HR B ((b, .winU 0 (L.take len)) :: H) w := by
  have hb := h.at_ b _ hg rfl
  have hb : w.heap[B b]? = some (.cells (byC L) e (0, 0)) := by rw [← byV_den B]; exact hb
  refine ⟨fun k o ho hk => ?_, fun k j o1 o2 h1 h2 h3 h4 he => ?_⟩
  · rw [hget_cons] at ho
    split at ho
    · rename_i hkb
      subst hkb
      cases ho
      refine ⟨_, _, _, hb, fun i hi => ?_⟩
      have hi2 : i < len ∧ i < L.length := by rw [List.length_take] at hi; omega
      rw [Nat.zero_add, List.getD_eq_getElem?_getD, List.getElem?_take, if_pos hi2.1, List.getElem?_eq_getElem hi2.2]
      simp [byC, List.getElem?_eq_getElem hi2.2]
    · exact h.at_ k o ho hk
  · rw [hget_cons] at h1 h3
    split at h1 <;> split at h3
    · omega
    · rename_i e1 _; subst e1; exact h.inj _ _ _ _ hg rfl h3 h4 he
    · rename_i _ e1; subst e1; exact h.inj _ _ _ _ h1 h2 hg rfl he
    · exact h.inj _ _ _ _ h1 h2 h3 h4 he
set_option maxHeartbeats 1000000 in
theorem vCut_ok {cv : SV} {z : Int} {H : Heap} {n m : Nat} {κ : K1} (hB : BytA cv H) (hcap : capOK cv) (hz : z = 1 ∨ z = 2) (hmn : m ≤ n) (hκ : ∀ (b len cap : Nat) H' n', BytA (.slice b 0 len cap) H' → Kpt n H H' n' → κ (.slice b 0 len cap) H' n') : GenOK Try.prog 12 [cv, .int z] H n m κ := by
  refine ⟨fnx_vCut.ent, fun B M w hH hwH hwa hown hM => ?_⟩
  have hX : CxOK (⟨Try.prog, tys, [], [], true, true, m, [], []⟩ : Cx) := ⟨tys_ok, .nil, .nil, mixed⟩
  refine (run_of_wp (X := ⟨Try.prog, tys, [], [], true, true, m, [], []⟩) (κ := fun v H' n' => CutR n H v H' n') fnx_vCut hX (Nat.le_of_ble_eq_true rfl) hwa hwH (Nat.le_refl n) B M w hH hown hM fun a Q hg hQ => ?_).mono fun e w' h => ?_
  · refine wp_seq (code_sound hX _ _ _ _ _ _ _ (fun e S' H' n' => e = .normal ∧ S' = [(4, .nils), (0, cv), (1, .int z)] ∧ H' = H ∧ n' = n) _ rfl hg ?_ ?_)
    · exact ⟨rfl, rfl, rfl, rfl⟩
    rintro e S1 H1 n1 B1 a1 w1 ⟨rfl, rfl, rfl, rfl⟩ g1 r1
    refine wp_seq (code_sound hX _ _ _ _ _ _ _ (fun e S' H' n' => e = .normal ∧ H' = H1 ∧ n' = n1 ∧ ∃ j : Nat, sget S' 0 = cv ∧ sget S' 1 = .int j ∧ CutV cv H1 j ∧ j ≤ 2) _ rfl g1 ?_ ?_)
    · rcases hB with rfl | ⟨kc, off, len, cap, L, rfl, hh, hl, h9, hb⟩
      · have hz0 : (0 : Int) < z := by omega
        simp -implicitDefEqProofs only [hz0, ZB, Int.reduceToNat, Nat.reduceLT, Nat.reduceLeDiff, Int.reduceLE, Int.reduceLT, Nat.reduceEqDiff, Nat.reduceSub, SB, SV.known, packR, ne_eq, reduceCtorEq, Nat.reduceEqDiff, ↓reduceIte, if_true, if_false, eq_self, Nat.reduceAdd, Nat.reduceMul, Nat.reduceSub, forall_const, oneCellS, litOne, flat1, Kd.isSca, flat, TYB]
        exact ⟨0, rfl, .inl ⟨rfl, rfl⟩, by omega⟩
      · have hcap' : len ≤ cap := hcap
        by_cases hzl : (len : Int) < z
        · simp -implicitDefEqProofs only [hzl, ZB, Int.reduceToNat, Nat.reduceLT, Nat.reduceLeDiff, Int.reduceLE, Int.reduceLT, Nat.reduceEqDiff, Nat.reduceSub, SB, SV.known, packR, ne_eq, reduceCtorEq, Nat.reduceEqDiff, ↓reduceIte, if_true, if_false, eq_self, Nat.reduceAdd, Nat.reduceMul, Nat.reduceSub, forall_const, oneCellS, litOne, flat1, Kd.isSca, flat, TYB]
          exact ⟨len, rfl, .inr ⟨kc, off, len, cap, L, rfl, hh, hl, h9, hb, hcap', Nat.le_refl _, fun h => h⟩, by omega⟩
        · simp -implicitDefEqProofs only [hzl, ZB, Int.reduceToNat, Nat.reduceLT, Nat.reduceLeDiff, Int.reduceLE, Int.reduceLT, Nat.reduceEqDiff, Nat.reduceSub, SB, SV.known, packR, ne_eq, reduceCtorEq, Nat.reduceEqDiff, ↓reduceIte, if_true, if_false, eq_self, Nat.reduceAdd, Nat.reduceMul, Nat.reduceSub, forall_const, oneCellS, litOne, flat1, Kd.isSca, flat, TYB]
          exact ⟨z.toNat, (Int.toNat_of_nonneg (by omega)).symm, .inr ⟨kc, off, len, cap, L, rfl, hh, hl, h9, hb, hcap', by omega, fun h => by omega⟩, by omega⟩
    rintro e S2 H2 n2 B2 a2 w2 ⟨rfl, rfl, rfl, j, s0, s1, hcut, hj⟩ g2 r2
    refine wp_seq (wp_region_list ?_)
    obtain ⟨k, hk9, hsl⟩ : ∃ k, k + 1 ≤ 1000000000 ∧ ∃ x, ((k = 0 ∧ (x = .nils ∨ ∃ b o c, x = .slice b o 0 c)) ∨ (0 < k ∧ ∃ (kc off c : Nat) (L : List Int), x = .slice kc (off + j) k c ∧ hget H2 kc = some (.winU off L) ∧ j + k = L.length ∧ (∀ x ∈ L, 0 ≤ x ∧ x ≤ 255) ∧ k ≤ 1000000000)) ∧
        ∀ (H' : Heap) (n' : Nat) (κ : K1), κ x H' n' → sliceVC tys (tys 22) cv (some (.int j)) none H' n' κ := by
      rcases hcut with ⟨rfl, rfl⟩ | ⟨kc, off, len, cap, L, rfl, hh, hl, h9, hb, hc, hjl, hj0⟩
      · exact ⟨0, by omega, .nils, .inl ⟨rfl, .inl rfl⟩, fun H' n' κ h => ⟨fun h => (nomatch (show Kd.num .u8 = Kd.other from h)), by omega, by omega, h⟩⟩
      · refine ⟨len - j, by omega, .slice kc (cutOff cap j off 1) (len - j) (cap - j), ?_, fun H' n' κ h => ⟨fun h => (nomatch (show Kd.num .u8 = Kd.other from h)), ?_⟩⟩
        · by_cases h0 : len - j = 0
          · exact .inl ⟨h0, .inr ⟨kc, _, _, by rw [h0]⟩⟩
          · refine .inr ⟨by omega, kc, off, cap - j, L, ?_, hh, by omega, hb, by omega⟩
            unfold cutOff
            rw [if_neg (by omega), Nat.mul_one]
        · exact ⟨by omega, by omega, h⟩
    obtain ⟨x, hx, hsl⟩ := hsl
    have y255 : 0 ≤ IntKind.u8.wrap (j : Int) ∧ IntKind.u8.wrap (j : Int) ≤ 255 := by
      rcases (show j = 0 ∨ j = 1 ∨ j = 2 by omega) with rfl | rfl | rfl <;> decide
    refine ops_eff (κ := fun v H' n' => v = .slice n2 0 0 0 ∧ H' = (n2, .cells (byV []) 5) :: H2 ∧ n' = n2 + 1) _ rfl rfl g2 (exec_bs (vs := ([] : List (Nat × Value)).toArray) rfl (by simp) (bs0_sound (e := 5) hX.τ u8_tys rfl g2.hr g2.hwf g2.own (g2.new _ (Nat.le_refl _)) ?_)) ?_
    · exact ⟨rfl, rfl, rfl⟩
    rintro v3 H3 n3 B3 a3 w3 ⟨rfl, rfl, rfl⟩ g3 r3
    refine ops_norm (κ := fun v H' n' => v = cv ∧ H' = (n2, .cells (byV []) 5) :: H2 ∧ n' = n2 + 1) hX _ (q := false) rfl rfl g3 ⟨s0, rfl, rfl⟩ ?_
    rintro v4 H4 n4 B4 a4 w4 ⟨rfl, rfl, rfl⟩ g4 r4
    refine ops_norm (κ := fun v H' n' => v = .int j ∧ H' = (n2, .cells (byV []) 5) :: H2 ∧ n' = n2 + 1) hX _ (q := false) rfl rfl g4 ⟨s1, rfl, rfl⟩ ?_
    rintro v5 H5 n5 B5 a5 w5 ⟨rfl, rfl, rfl⟩ g5 r5
    refine ops_norm (κ := fun v H' n' => v = x ∧ H' = (n2, .cells (byV []) 5) :: H2 ∧ n' = n2 + 1) hX _ (q := false) rfl rfl g5 ⟨rfl, hsl _ _ (fun v H' n' => v = x ∧ H' = (n2, .cells (byV []) 5) :: H2 ∧ n' = n2 + 1) ⟨rfl, rfl, rfl⟩⟩ ?_
    rintro v6 H6 n6 B6 a6 w6 ⟨rfl, rfl, rfl⟩ g6 r6
    have kx : v6.known = true := by
      rcases hx with ⟨_, rfl | ⟨_, _, _, rfl⟩⟩ | ⟨_, _, _, _, _, rfl, _⟩ <;> rfl
    have d1 : a6.eval (.tmp 11) = (SV.slice n2 0 0 0).den B6 := ev_den g6.sr (.tmp 11) rfl
    have d2 : a6.eval (.tmp 14) = v6.den B6 := ev_den g6.sr (.tmp 14) kx
    refine ops_eff (κ := fun v H' n' => CutM n2 H2 k v H' n') _ rfl rfl g6 (exec_app rfl rfl (by simp [d1, d2]) rfl (cut_app (j := j) hX.τ g6.hr g2.hwf g6.own (g6.new _ (Nat.le_refl _)) hmn hx)) ?_
    rintro v7 H7 n7 B7 a7 w7 ⟨b, L, rfl, hb, hg7, hlc, hbs, hn7, hfr⟩ g7 r7
    refine ops_norm (κ := fun v H' n' => v = .int j ∧ H' = H7 ∧ n' = n7) hX _ (q := false) rfl rfl g7 ⟨s1, rfl, rfl⟩ ?_
    rintro v8 H8 n8 B8 a8 w8 ⟨rfl, rfl, rfl⟩ g8 r8
    refine ops_norm (κ := fun v H' n' => v = .lit (.int .u8 (IntKind.u8.wrap j)) ∧ H' = H8 ∧ n' = n8) hX _ (q := false) rfl rfl g8 ⟨rfl, rfl, rfl, rfl⟩ ?_
    rintro v9 H9 n9 B9 a9 w9 ⟨rfl, rfl, rfl⟩ g9 r9
    have d3 : a9.eval (.tmp 17) = .int .u8 (IntKind.u8.wrap j) := ev_den g9.sr (.tmp 17) rfl
    refine ops_eff (κ := fun v H' n' => v = .slice n9 0 1 1 ∧ H' = (n9, .cells (byV [IntKind.u8.wrap j]) 5) :: H9 ∧ n' = n9 + 1) _ rfl rfl g9 (exec_bs (vs := ([(0, Value.int .u8 (IntKind.u8.wrap j))]).toArray) rfl (by simp [d3]) (bs1_sound (e := 5) hX.τ u8_tys rfl g9.hr g9.hwf g9.own (g9.new _ (Nat.le_refl _)) ?_)) ?_
    · exact ⟨rfl, rfl, rfl⟩
    rintro v10 H10 n10 B10 a10 w10 ⟨rfl, rfl, rfl⟩ g10 r10
    have d4 : a10.eval (.tmp 15) = (SV.slice b 0 k L.length).den B10 := ev_den g10.sr (.tmp 15) rfl
    have d5 : a10.eval (.tmp 18) = (SV.slice n9 0 1 1).den B10 := ev_den g10.sr (.tmp 18) rfl
    have hbn := (g9.hwf _ _ hg7).1
    refine ops_eff (κ := fun v H' n' => CutR n2 H2 v H' n') _ rfl rfl g10 (exec_app rfl rfl (by simp [d4, d5]) rfl (cut_one (b2 := n9) hX.τ g10.hr g10.hwf g10.own (g10.new _ (Nat.le_refl _)) hmn hb (by omega) (by rw [hget_cons, if_neg (by omega)]; exact hg7) hlc hbs (by simp [hget_cons]) y255 hk9 (fun i o hi ho => by rw [hget_cons, if_neg (by omega)]; exact hfr i o hi ho))) ?_
    rintro v11 H11 n11 B11 a11 w11 ⟨b', len', L', rfl, hrest⟩ g11 r11
    refine ops_norm (κ := fun v H' n' => v = .slice b' 0 len' L'.length ∧ H' = H11 ∧ n' = n11) hX _ (q := false) rfl rfl g11 ⟨rfl, rfl, rfl⟩ ?_
    rintro v12 H12 n12 B12 a12 w12 ⟨rfl, rfl, rfl⟩ g12 r12
    unfold wpList
    exact wp_ret (hQ _ _ _ _ _ _ ⟨rfl, b', len', L', rfl, hrest⟩ g12 (r1.trans (r2.trans (r3.trans (r4.trans (r5.trans (r6.trans (r7.trans (r8.trans (r9.trans (r10.trans (r11.trans r12)))))))))))) 
  · obtain ⟨v, H', n', B', rfl, ⟨b, len, L, rfl, hb, hg, hlc, h9, hbs, hn, hfr⟩, hwv, hwf', hH', hown', hkept, hag, hp⟩ := h
    have hbn := (hwf' _ _ hg).1
    have hwf2 : hwf n' ((b, .winU 0 (L.take len)) :: H') := hwf_cons hwf' hbn trivial
    refine ⟨_, (b, .winU 0 (L.take len)) :: H', n', B', rfl, hκ _ _ _ _ _ (.inr ⟨b, 0, len, L.length, L.take len, rfl, by simp [hget_cons], by rw [List.length_take]; omega, h9, hbs⟩) ⟨hn, hwf2, fun i o hi ho => by rw [hget_cons, if_neg (by omega)]; exact hfr i o hi ho⟩, hn, hwv, hwf2, hag, hH'.win hg hlc, fun k o ho hk hmk => ?_, hkept⟩
    rw [hget_cons] at ho
    split at ho
    · rename_i e1; subst e1; exact hown' _ _ hg rfl hmk
    · exact hown' _ _ ho hk hmk
--@tbl vCut = laws.vCut
def vCut_F : List SV → Heap → Nat → Nat → K1 → Prop
  | [cv, .int z], H, n, m, κ => BytA cv H ∧ capOK cv ∧ (z = 1 ∨ z = 2) ∧ m ≤ n ∧ ∀ (b len cap : Nat) H' n', BytA (.slice b 0 len cap) H' → Kpt n H H' n' → κ (.slice b 0 len cap) H' n'
  | _, _, _, _, _ => False
theorem vCut_T : ∀ args H n m κ, vCut_F args H n m κ → GenOK Try.prog 12 args H n m κ := by
  intro args H n m κ h
  unfold vCut_F at h
  split at h
  · obtain ⟨h1, h2, h3, h4, h5⟩ := h
    exact vCut_ok h1 h2 h3 h4 h5
  · exact h.elim
theorem cut_use {cv : SV} {z : Int} {H : Heap} {n m : Nat} {κ : K1} (h1 : BytA cv H) (h2 : capOK cv) (h3 : z = 1 ∨ z = 2) (h4 : m ≤ n) (h5 : ∀ (b len cap : Nat) H' n', BytA (.slice b 0 len cap) H' → Kpt n H H' n' → κ (.slice b 0 len cap) H' n') : vCut_F [cv, .int z] H n m κ := ⟨h1, h2, h3, h4, h5⟩
end Go.Proofs.Ytckcojgfgcjamaa
set_option maxRecDepth 100000
set_option linter.unusedSimpArgs false
set_option linter.unusedVariables false
namespace Go.Proofs.Ytckcojgfgcjamaa
open Go Go.RowKit
theorem eqI_a6v : EqI Try.prog 29 6 := eqI_of (D := 2) (by omega) (eqA_ints (i := (Try.prog.info? 3).getD default) Try.underlying29 (by kernel_rfl) (by kernel_rfl) rfl Try.underlying3) (by kernel_rfl)
--@tbl vBig = laws.vBig
theorem vBig_ok (L : List Int) (off len cap : Nat) : PureH Try.prog 5 [.slice 0 off len cap] [(0, .winU off L)] (.bool (decide (65536 < (len : Int)))) := by
  refine pure_of_vc (X := ⟨Try.prog, tys, [], [], true, true, 1, [], []⟩) fn_5 ⟨tys_ok, .nil, .nil, mixed⟩ (n0 := 1) (Nat.le_of_ble_eq_true rfl) (by simp [wfL, SV.wf]) (wfH_spec (by simp [wfH, SObj.wf, wfL, SV.wf])) (Nat.le_refl _) (fun _ => by simp [SV.wf, wfL]) ?_
  simp -implicitDefEqProofs only [Try.f5, Option.getD_some, argS, ZB, Int.reduceToNat, Nat.reduceLT, Nat.reduceLeDiff, Int.reduceLE, Int.reduceLT, Nat.reduceEqDiff, Nat.reduceSub, SB, SV.known, packR, ne_eq, reduceCtorEq, Nat.reduceEqDiff, ↓reduceIte, if_true, if_false, eq_self, Nat.reduceAdd, Nat.reduceMul, Nat.reduceSub, forall_const, oneCellS, litOne, flat1, Kd.isSca, flat, TYB]
theorem vBig_nil (H : Heap) : PureH Try.prog 5 [.nils] H (.bool false) := by
  refine PureH.any ?_ H
  refine pure_of_vc (X := ⟨Try.prog, tys, [], [], true, true, 0, [], []⟩) fn_5 ⟨tys_ok, .nil, .nil, mixed⟩ (n0 := 0) (Nat.le_of_ble_eq_true rfl) (by simp [wfL, SV.wf]) (wfH_spec (by simp [wfH, SObj.wf, wfL, SV.wf])) (Nat.le_refl _) (fun _ => by simp [SV.wf, wfL]) ?_
  simp -implicitDefEqProofs only [Try.f5, Option.getD_some, argS, ZB, Int.reduceToNat, Nat.reduceLT, Nat.reduceLeDiff, Int.reduceLE, Int.reduceLT, Nat.reduceEqDiff, Nat.reduceSub, SB, SV.known, packR, ne_eq, reduceCtorEq, Nat.reduceEqDiff, ↓reduceIte, if_true, if_false, eq_self, Nat.reduceAdd, Nat.reduceMul, Nat.reduceSub, forall_const, oneCellS, litOne, flat1, Kd.isSca, flat, TYB]
def vBig_F : List SV → Heap → Option (Prop × SV)
  | [.slice a o len _], H => match hget H a with
    | some (.winU off _) => some (o = off, .bool (decide (65536 < (len : Int))))
    | _ => none
  | [.nils], _ => some (True, .bool false)
  | _, _ => none
theorem vBig_T : ∀ args H p v, vBig_F args H = some (p, v) → p → PureH Try.prog 5 args H v := by
  intro args H p v h hp
  unfold vBig_F at h
  split at h
  · rename_i a o len cap
    split at h
    · rename_i off L g
      cases h
      subst hp
      exact one_block (vBig_ok L o len cap) g rfl (fun _ => trivial)
    · cases h
  · cases h
    exact vBig_nil H
  · cases h
end Go.Proofs.Ytckcojgfgcjamaa
