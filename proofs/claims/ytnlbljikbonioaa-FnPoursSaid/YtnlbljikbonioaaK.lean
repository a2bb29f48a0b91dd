/- Contracts of functions that return a fresh slice. -/
import Derived.Test.YtnlbljikbonioaaA
set_option maxRecDepth 100000
set_option linter.unusedSimpArgs false
set_option linter.unusedVariables false
namespace Go.Proofs.Ytnlbljikbonioaa
open Go Go.RowKit

/-- How a slice comes back: by itself, or ahead of other values. -/
inductive Wrap
  | one
  | more (l : List SV)
  | mid (a : SV) (l : List SV)
def Wrap.ap : Wrap → SV → SV
  | .one, v => v
  | .more l, v => .tup (v :: l)
  | .mid a l, v => .tup (a :: v :: l)
def flatL : List SV → Bool
  | [] => true
  | v :: r => flat v && flatL r
def Wrap.ok : Wrap → Bool
  | .one => true
  | .more l => flatL l
  | .mid a l => flat a && flatL l
theorem flatL_den : ∀ {l : List SV}, flatL l = true → ∀ B B' : Nat → Nat, denL B l = denL B' l
  | [], _, _, _ => rfl
  | v :: r, h, B, B' => by
    simp only [flatL, Bool.and_eq_true] at h
    simp only [denL]
    rw [den_flat h.1 B B', flatL_den h.2 B B']
theorem flatL_wf : ∀ {l : List SV}, flatL l = true → ∀ n, wfL n l
  | [], _, _ => trivial
  | v :: r, h, n => by
    simp only [flatL, Bool.and_eq_true] at h
    exact ⟨wf_flat h.1 n, flatL_wf h.2 n⟩
theorem Wrap.den_eq {wr : Wrap} (h : wr.ok = true) {B B' : Nat → Nat} {v v' : SV} (hv : v.den B = v'.den B') : (wr.ap v).den B = (wr.ap v').den B' := by
  cases wr with
  | one => exact hv
  | more l => simp only [Wrap.ap, SV.den, denL, hv, flatL_den h B B']
  | mid a l =>
    simp only [Wrap.ok, Bool.and_eq_true] at h
    simp only [Wrap.ap, SV.den, denL, hv, den_flat h.1 B B', flatL_den h.2 B B']
theorem Wrap.wf_ap {wr : Wrap} (h : wr.ok = true) {v : SV} {n : Nat} (hv : v.wf n) : (wr.ap v).wf n := by
  cases wr with
  | one => exact hv
  | more l => exact ⟨hv, flatL_wf h n⟩
  | mid a l =>
    simp only [Wrap.ok, Bool.and_eq_true] at h
    exact ⟨wf_flat h.1 n, hv, flatL_wf h.2 n⟩

structure FreshP (P : Program) (f : FuncId) (args : List SV) (H0 : Heap) (L : List Int) (len es e : Nat) (nl : Bool) (wr : Wrap) : Prop where
  ent : Entd P f
  ok : wr.ok = true
  call : ∀ B w, HR B H0 w → Calls P f (denL B args).toArray w fun r w' => Bel w.heap.size w w' ∧ ((nl = true ∧ L = [] ∧ r = .returned ((wr.ap .nils).den B)) ∨
    ∃ id cap junk, w.heap.size ≤ id ∧ r = .returned ((wr.ap (.slice 0 0 len cap)).den fun _ => id) ∧ w'.heap[id]? = some ((SObj.ints (L ++ junk) e).den B) ∧ junk.length + L.length = cap * es ∧ (nl = true → L ≠ []))

def freshPost (m : Nat) (L : List Int) (len es e : Nat) (nl : Bool) (wr : Wrap) (v : SV) (H' : Heap) : Prop :=
  (nl = true ∧ L = [] ∧ v = wr.ap .nils) ∨ ∃ b cap junk, v = wr.ap (.slice b 0 len cap) ∧ hget H' b = some (.ints (L ++ junk) e) ∧ m ≤ b ∧ junk.length + L.length = cap * es ∧ (nl = true → L ≠ [])
theorem fresh_of_vc {X : Cx} {f : FuncId} {fn : Func} {c : Code} (hf : FnOK X.P f fn c X.sx X.hr) (hX : CxOK X) {n0 : Nat} {args : List SV} {H0 : Heap} {L : List Int} {len es e : Nat} {nl : Bool} {wr : Wrap} (hw : wr.ok = true) (hN : args.length ≤ fn.ntmps) (hwa : wfL n0 args) (hwH : hwf n0 H0) (hm : n0 ≤ X.m)
    (h : codeVC X n0 c (argS 0 args) H0 n0 (retK X.τ fn.results.toList fun v H' _ => freshPost X.m L len es e nl wr v H')) : FreshP X.P f args H0 L len es e nl wr := by
  refine ⟨hf.ent, hw, fun B w hH => ?_⟩
  refine (run_of_vc hf hX hN hwa hwH (Nat.le_refl _) h B (fun i => w.heap.size ≤ i) w hH (own_ge hwH hm) (fun _ h => h)).mono fun r w' hh => ?_
  obtain ⟨v, H', n', B', rfl, hk, g1, g2, g3, g4, g5, g6, g7⟩ := hh
  refine ⟨g5.below fun i hi hge => by omega, ?_⟩
  rcases hk with ⟨h1, h2, rfl⟩ | ⟨b, cap, junk, rfl, h2, h3, h4, h5⟩
  · exact .inl ⟨h1, h2, congrArg Ending.returned (Wrap.den_eq hw rfl)⟩
  · exact .inr ⟨B' b, cap, junk, g4 b _ h2 rfl h3, congrArg Ending.returned (Wrap.den_eq hw rfl), g3.at_ b _ h2 rfl, h4, h5⟩

def freshK (wr : Wrap) (L : List Int) (len es e : Nat) (nl : Bool) (H : Heap) (n : Nat) (κ : K1) : Prop :=
  (nl = true → L = [] → κ (wr.ap .nils) H n) ∧ ((nl = true → L ≠ []) → ∀ (cap : Nat) (junk : List Int), junk.length + L.length = cap * es → κ (wr.ap (.slice n 0 len cap)) ((n, .ints (L ++ junk) e) :: H) (n + 1))

theorem HR.cons_fresh {B : Nat → Nat} {H : Heap} {n id : Nat} {w w' : World} {o : SObj} (h : HR B H w) (hw : hwf n H) (hb : Bel w.heap.size w w') (hid : w.heap.size ≤ id) (hwo : o.wf n) (hfl : o.full = true) (ho : w'.heap[id]? = some (o.den B)) : HR (upd B n id) ((n, o) :: H) w' := by
  have hag := upd_lt B n id
  have h' := h.of_below hb
  refine ⟨fun k o' hl hk => ?_, fun k j o1 o2 h1 h2 h3 h4 he => ?_⟩
  · rw [hget_cons] at hl
    split at hl
    · rename_i hkn
      subst hkn
      cases hl
      rw [upd_self]
      exact SObj.sat_of_den hfl (by rw [SObj.den_congr hag o hwo]; exact ho)
    · have hkn := (hw k o' hl).1
      rw [hag k hkn]
      exact SObj.sat_congr hag o' (hw k o' hl).2 (h'.at_ k o' hl hk)
  · rw [hget_cons] at h1 h3
    split at h1
    · rename_i hk
      split at h3
      · rename_i hj; omega
      · subst hk
        rw [upd_self, hag j (hw j o2 h3).1] at he
        have := h.lt h3 h4
        omega
    · split at h3
      · rename_i hj
        subst hj
        rw [upd_self, hag k (hw k o1 h1).1] at he
        have := h.lt h1 h2
        omega
      · rw [hag k (hw k o1 h1).1, hag j (hw j o2 h3).1] at he
        exact h.inj k j o1 o2 h1 h2 h3 h4 he

theorem gen_of_fresh {P : Program} {f : FuncId} {args : List SV} {H0 H : Heap} {L : List Int} {len es e n m : Nat} {nl : Bool} {wr : Wrap} {κ : K1} (h : FreshP P f args H0 L len es e nl wr) (hs : ∀ k o, hget H0 k = some o → hget H k = some o) (hk : freshK wr L len es e nl H n κ) : GenOK P f args H n m κ := by
  refine ⟨h.ent, fun B M w hH hwH hwa hown hM => ?_⟩
  have hH0 : HR B H0 w := ⟨fun k o hk hl => hH.at_ k o (hs k o hk) hl, fun k j o o' hk hl hj hl' he => hH.inj k j o o' (hs k o hk) hl (hs j o' hj) hl' he⟩
  refine (h.call B w hH0).mono fun r w' hh => ?_
  obtain ⟨hb, hh⟩ := hh
  rcases hh with ⟨h1, h2, rfl⟩ | ⟨id, cap, junk, h1, rfl, h3, h4, h5⟩
  · exact ⟨_, H, n, B, rfl, hk.1 h1 h2, Nat.le_refl _, Wrap.wf_ap h.ok trivial, hwH, fun _ _ => rfl, hH.of_below hb, hown, Kept.of_below hb⟩
  · refine ⟨_, _, n + 1, upd B n id, ?_, hk.2 h5 cap junk h4, by omega, Wrap.wf_ap h.ok (by simp [SV.wf]), ?_, upd_lt B n id, HR.cons_fresh hH hwH hb h1 trivial rfl h3, ?_, Kept.of_below hb⟩
    · exact congrArg Ending.returned (Wrap.den_eq h.ok (by simp [SV.den, upd_self]))
    · intro k o hl
      rw [hget_cons] at hl
      split at hl
      · cases hl; exact ⟨by omega, trivial⟩
      · have := hwH k o hl
        exact ⟨by omega, SObj.wf_mono (by omega) _ this.2⟩
    · intro k o hl hlive hmk
      rw [hget_cons] at hl
      split at hl
      · rename_i hkn
        subst hkn
        rw [upd_self]
        exact hM id h1
      · rw [upd_lt B n id k (hwH k o hl).1]
        exact hown k o hl hlive hmk

/-- A block under another name. -/
theorem Sub.mk_to (b b' : Nat) {p m : Nat} {S S' : Env} {H H' : Heap} {n' : Nat} (h1 : subS (fun k => if k = b then b' else k) S S') (h2 : subH (fun k => if k = b then b' else k) m H H') (h3 : wfS n' S') (h4 : wfH n' H') (h5 : p ≤ n') (h6 : p ≤ b)
    (h7 : ∀ k ∈ H'.map (·.1), k ≠ b → k ≠ b') : Sub p m S H S' H' n' := by
  refine ⟨fun k => if k = b then b' else k, h1, subH_spec h2, h3, wfH_spec h4, fun x hx y hy he => ?_, fun k hk => if_neg (by omega), h5⟩
  simp only at he
  by_cases hxb : x = b
  · by_cases hyb : y = b
    · rw [hxb, hyb]
    · rw [if_pos hxb, if_neg hyb] at he
      exact absurd he.symm (h7 y hy hyb)
  · by_cases hyb : y = b
    · rw [if_neg hxb, if_pos hyb] at he
      exact absurd he (h7 x hx hxb)
    · rw [if_neg hxb, if_neg hyb] at he
      exact he
theorem Sub.mk_to2 (b b' c c' : Nat) {p m : Nat} {S S' : Env} {H H' : Heap} {n' : Nat} (h1 : subS (fun k => if k = b then b' else if k = c then c' else k) S S') (h2 : subH (fun k => if k = b then b' else if k = c then c' else k) m H H') (h3 : wfS n' S') (h4 : wfH n' H') (h5 : p ≤ n') (h6 : p ≤ b) (h8 : p ≤ c)
    (h7 : ∀ x ∈ H'.map (·.1), ∀ y ∈ H'.map (·.1), (if x = b then b' else if x = c then c' else x) = (if y = b then b' else if y = c then c' else y) → x = y) : Sub p m S H S' H' n' :=
  ⟨fun k => if k = b then b' else if k = c then c' else k, h1, subH_spec h2, h3, wfH_spec h4, fun x hx y hy he => h7 x hx y hy he, fun k hk => by show (if k = b then b' else if k = c then c' else k) = k; rw [if_neg (by omega), if_neg (by omega)], h5⟩
/-- A slice that grows: nothing yet, or block 1. -/
def outV (i len cap : Nat) : SV := match i with
  | 0 => .nils
  | _ + 1 => .slice 1 0 len cap
def outH (i : Nat) (L : List Int) (e : Nat) (base : Heap) : Heap := match i with
  | 0 => base
  | _ + 1 => (1, .ints L e) :: base
theorem outV_zero (len cap : Nat) : outV 0 len cap = .nils := rfl
theorem outV_succ (i len cap : Nat) : outV (i + 1) len cap = .slice 1 0 len cap := rfl
theorem outH_zero (L : List Int) (e : Nat) (base : Heap) : outH 0 L e base = base := rfl
theorem outH_succ (i : Nat) (L : List Int) (e : Nat) (base : Heap) : outH (i + 1) L e base = (1, .ints L e) :: base := rfl
end Go.Proofs.Ytnlbljikbonioaa
