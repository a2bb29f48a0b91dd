/- The engine: regions that draw their order; operations by kinds, classes of worlds carried along. -/
import Derived.Test.YtnlbljikbonioaaEngV
set_option maxRecDepth 100000
set_option linter.unusedSimpArgs false
set_option linter.unusedVariables false
namespace Go.Proofs.Ytnlbljikbonioaa
open Go Go.RowKit

section
variable {P : Program}

/-- What an operation gives: a value and a world. -/
def Oper.gives (P : Program) (o : Oper) (a : Act) (w : World) (R : Value → World → Prop) : Prop := match (execOp a.eval o).run P w with
  | .ok (.value v) w' => R v w'
  | .ok .skip w' => R undef w'
  | .ok (.enter f args) w' => Calls P f args w' fun e w'' => ∃ v, e = .returned v ∧ R v w''
  | _ => False
theorem Oper.gives_mono {o : Oper} {a : Act} {w : World} {R R' : Value → World → Prop} (h : Oper.gives P o a w R) (hR : ∀ v w', R v w' → R' v w') : Oper.gives P o a w R' := by
  unfold Oper.gives at h ⊢
  split at h
  · exact hR _ _ h
  · exact hR _ _ h
  · exact h.mono fun e w'' ⟨v, he, hr⟩ => ⟨v, he, hR _ _ hr⟩
  · exact h.elim
theorem Oper.gives_ex {o : Oper} {a : Act} {w : World} {R : Value → World → Prop} (h : Oper.gives P o a w R) : ∃ v w', R v w' := by
  unfold Oper.gives at h
  split at h
  · exact ⟨_, _, h⟩
  · exact ⟨_, _, h⟩
  · obtain ⟨e, w', fr, ⟨v, _, hr⟩, _⟩ := h []
    exact ⟨_, _, hr⟩
  · exact h.elim
theorem Oper.wp_of_gives {o : Oper} {a : Act} {w : World} {R : Value → World → Prop} {K : Act → World → Prop} {Q : Exit → Act → World → Prop} (h : Oper.gives P o a w R) (hR : ∀ v w', R v w' → K (a.put o.dst v) w') : o.wp P a w K Q := by
  unfold Oper.gives at h
  unfold Oper.wp
  split at h
  · rename_i hr; rw [hr]; exact hR _ _ h
  · rename_i hr; rw [hr]; exact hR _ _ h
  · rename_i hr
    rw [hr]
    exact h.mono fun e w'' ⟨v, he, hv⟩ => by subst he; exact hR _ _ hv
  · exact h.elim

inductive Kind | f | q | a | e
deriving DecidableEq

/-- Switches: may calls change things; are stores into holes. -/
structure Sx where
  c : List Nat
  s : Bool
def kindOf (sx : Sx) : Op → Kind
  | .move _ => .f
  | .assign _ => .f
  | .pick _ _ _ => .f
  | .binOp _ _ _ _ _ => .f
  | .unOp _ _ _ => .f
  | .extract _ _ => .f
  | .makeFunc _ _ _ => .f
  | .fieldAddr _ _ _ => .f
  | .nilCheck _ => .f
  | .field _ _ _ => .f
  | .indexAddr _ _ _ => .f
  | .index _ _ _ => .f
  | .slice _ _ _ _ _ => .f
  | .build _ _ => .f
  | .load _ _ => .q
  | .lookup _ _ _ _ => .q
  | .alloc _ => .a
  | .store _ _ _ => if sx.s then .a else .e
  | .box _ _ => .a
  | .buildSlice _ _ _ => .a
  | .makeSlice _ _ _ => .a
  | .makeMap _ _ => .a
  | .call c => match c.callee with
    | .builtin .append => .e
    | .builtin .clear => .e
    | .builtin .len => .q
    | .builtin _ => .f
    | .value o => if isIn sx.c o then .e else .q
    | _ => .e
  | _ => .e

abbrev WC := World → Prop
def Cl (C : WC) : Prop := ∀ w w', C w → Bel w.heap.size w w' → C w'
def qAt (P : Program) (o : Oper) (a : Act) (w : World) (v : Value) : Prop := Oper.gives P o a w fun u w' => u = v ∧ Bel w.heap.size w w'
def fAt (P : Program) (o : Oper) (a : Act) (v : Value) : Prop := ∀ w, (execOp a.eval o).run P w = .ok (.value v) w

abbrev KG := Act → WC → Prop
def stepE (mono : Bool) (P : Program) (o : Oper) (a : Act) (K : KG) (C : WC) : Prop :=
  ∃ (ι : Type) (val : ι → Value) (fam : ι → WC), (∀ w, C w → Oper.gives P o a w fun v w' => ∃ i, v = val i ∧ fam i w') ∧ (mono = true → ∀ i w, fam i w → C w) ∧ (∀ i, Cl (fam i)) ∧ ∀ i, (∃ w, fam i w) → K (a.put o.dst (val i)) (fam i)
def stepG (sx : Sx) (P : Program) (o : Oper) (a : Act) (K : KG) (C : WC) : Prop := match kindOf sx o.op with
  | .f => ∃ v, fAt P o a v ∧ K (a.put o.dst v) C
  | .q => ∃ v, (∀ w, C w → qAt P o a w v) ∧ K (a.put o.dst v) C
  | .a => stepE true P o a K C
  | .e => stepE false P o a K C
def operG (P : Program) (sx : Sx) (ops : Array Oper) (o : Oper) (K : KG) (a : Act) (C : WC) : Prop :=
  if Region.wanted o (yielded ops a.tmps) then stepG sx P o a K C else K (a.put o.dst undef) C
def opG (P : Program) (sx : Sx) (ops : Array Oper) (i : Nat) (K : KG) (a : Act) (C : WC) : Prop := match ops[i]? with
  | none => K a C
  | some o => operG P sx ops o K a C

/-- What one operation comes to, in one of three ways. -/
inductive Way (P : Program) (sx : Sx) (ops : Array Oper) (o : Oper) (K : KG) (a : Act) (C : WC) : Prop
  | off (h : ¬ Region.wanted o (yielded ops a.tmps) = true) (k : K (a.put o.dst undef) C)
  | f (h : Region.wanted o (yielded ops a.tmps) = true) (hk : kindOf sx o.op = .f) (v : Value) (hv : fAt P o a v) (k : K (a.put o.dst v) C)
  | q (h : Region.wanted o (yielded ops a.tmps) = true) (hk : kindOf sx o.op = .q) (v : Value) (hv : ∀ w, C w → qAt P o a w v) (k : K (a.put o.dst v) C)
  | e (h : Region.wanted o (yielded ops a.tmps) = true) (m : Bool) (hk : kindOf sx o.op = if m then .a else .e) (s : stepE m P o a K C)
theorem way_iff {sx : Sx} {ops : Array Oper} {o : Oper} {K : KG} {a : Act} {C : WC} : operG P sx ops o K a C ↔ Way P sx ops o K a C := by
  unfold operG stepG
  constructor
  · intro h
    split at h
    · rename_i hw
      split at h
      · rename_i hk; obtain ⟨v, h1, h2⟩ := h; exact .f hw hk v h1 h2
      · rename_i hk; obtain ⟨v, h1, h2⟩ := h; exact .q hw hk v h1 h2
      · rename_i hk; exact .e hw true (by simpa using hk) h
      · rename_i hk; exact .e hw false (by simpa using hk) h
    · rename_i hw; exact .off hw h
  · intro h
    cases h with
    | off h k => rw [if_neg h]; exact k
    | f h hk v hv k => rw [if_pos h]; simp only [hk]; exact ⟨v, hv, k⟩
    | q h hk v hv k => rw [if_pos h]; simp only [hk]; exact ⟨v, hv, k⟩
    | e h m hk s =>
      rw [if_pos h]
      cases m with
      | true => simp only [if_true] at hk; simp only [hk]; exact s
      | false => simp only [Bool.false_eq_true, if_false] at hk; simp only [hk]; exact s

theorem stepE_mono {m : Bool} {o : Oper} {a : Act} {K K' : KG} {C : WC} (h : ∀ a C, (∃ w, C w) → K a C → K' a C) (hh : stepE m P o a K C) : stepE m P o a K' C := by
  obtain ⟨ι, val, fam, g1, g2, g3, g4⟩ := hh
  exact ⟨ι, val, fam, g1, g2, g3, fun i hi => h _ _ hi (g4 i hi)⟩
theorem operG_mono {sx : Sx} {ops : Array Oper} {o : Oper} {a : Act} {K K' : KG} {C : WC} (hC : ∃ w, C w) (h : ∀ a C, (∃ w, C w) → K a C → K' a C) (hh : operG P sx ops o K a C) : operG P sx ops o K' a C := by
  rw [way_iff] at hh ⊢
  cases hh with
  | off h1 k => exact .off h1 (h _ _ hC k)
  | f h1 hk v hv k => exact .f h1 hk v hv (h _ _ hC k)
  | q h1 hk v hv k => exact .q h1 hk v hv (h _ _ hC k)
  | e h1 m hk s => exact .e h1 m hk (stepE_mono h s)
theorem opG_mono {sx : Sx} {ops : Array Oper} {i : Nat} {a : Act} {K K' : KG} {C : WC} (hC : ∃ w, C w) (h : ∀ a C, (∃ w, C w) → K a C → K' a C) (hh : opG P sx ops i K a C) : opG P sx ops i K' a C := by
  unfold opG at hh ⊢
  split at hh
  · exact h _ _ hC hh
  · exact operG_mono hC h hh

/-- Which two operations may change places. -/
def swapOK (k j : Kind) : Bool := k == .f || j == .f || (k == .q && (j == .q || j == .a))

section swap
variable {sx : Sx} {ops : Array Oper} {ok oj : Oper} {a : Act} {C : WC}
theorem gives_put {o : Oper} {w : World} {R : Value → World → Prop} {d : Option Tmp} {v : Value} (hs : ∀ cs b, o.op ≠ .select cs b) (hd : ∀ t, d = some t → t ∉ o.looksAt ops) : Oper.gives P o (a.put d v) w R = Oper.gives P o a w R := by
  unfold Oper.gives; rw [execOp_put o hs a d v hd]
theorem fAt_put {o : Oper} {u : Value} {d : Option Tmp} {v : Value} (hs : ∀ cs b, o.op ≠ .select cs b) (hd : ∀ t, d = some t → t ∉ o.looksAt ops) : fAt P o (a.put d v) u = fAt P o a u := by
  unfold fAt; rw [execOp_put o hs a d v hd]
theorem qAt_put {o : Oper} {u : Value} {w : World} {d : Option Tmp} {v : Value} (hs : ∀ cs b, o.op ≠ .select cs b) (hd : ∀ t, d = some t → t ∉ o.looksAt ops) : qAt P o (a.put d v) w u = qAt P o a w u := by
  unfold qAt; exact gives_put hs hd

theorem swapG (hC : ∃ w, C w) (hap : ok.apart ops oj = true) (hsk : ∀ cs b, ok.op ≠ .select cs b) (hsj : ∀ cs b, oj.op ≠ .select cs b) (hsw : swapOK (kindOf sx ok.op) (kindOf sx oj.op) = true) {K K' : KG}
    (hK : ∀ v u C', (∃ w, C' w) → K ((a.put ok.dst v).put oj.dst u) C' → K' ((a.put oj.dst u).put ok.dst v) C')
    (h : operG P sx ops ok (fun a' C' => operG P sx ops oj K a' C') a C) : operG P sx ops oj (fun a' C' => operG P sx ops ok K' a' C') a C := by
  obtain ⟨h1, h2, h3⟩ := Oper.apart_spec hap
  have wj : ∀ v, Region.wanted oj (yielded ops (a.put ok.dst v).tmps) = Region.wanted oj (yielded ops a.tmps) := fun v => wanted_put oj a ok.dst v h1
  have wk : ∀ u, Region.wanted ok (yielded ops (a.put oj.dst u).tmps) = Region.wanted ok (yielded ops a.tmps) := fun u => wanted_put ok a oj.dst u h3
  rw [way_iff] at h ⊢
  -- a first step that leaves the class: what stands behind it
  have behind : ∀ (v : Value), (∀ K1 : KG, ∀ u C', (∃ w, C' w) → (∀ w, C' w → C w) → K1 ((a.put oj.dst u).put ok.dst v) C' → operG P sx ops ok K1 (a.put oj.dst u) C') → operG P sx ops oj K (a.put ok.dst v) C →
      (kindOf sx oj.op = .e → ∀ K1 : KG, ∀ u C', (∃ w, C' w) → K1 ((a.put oj.dst u).put ok.dst v) C' → operG P sx ops ok K1 (a.put oj.dst u) C') → Way P sx ops oj (fun a' C' => operG P sx ops ok K' a' C') a C := by
    intro v hk hj hke
    rw [way_iff] at hj
    cases hj with
    | off g k => exact .off (by rw [← wj v]; exact g) (hk _ _ _ hC (fun _ h => h) (hK v undef C hC k))
    | f g gk u gu k => exact .f (by rw [← wj v]; exact g) gk u (by rw [fAt_put hsj h1] at gu; exact gu) (hk _ _ _ hC (fun _ h => h) (hK v u C hC k))
    | q g gk u gu k => exact .q (by rw [← wj v]; exact g) gk u (fun w hw => by have := gu w hw; rw [qAt_put hsj h1] at this; exact this) (hk _ _ _ hC (fun _ h => h) (hK v u C hC k))
    | e g m gk s =>
      obtain ⟨ι, val, fam, g1, g2, g3, g4⟩ := s
      refine .e (by rw [← wj v]; exact g) m gk ⟨ι, val, fam, fun w hw => by have := g1 w hw; rw [gives_put hsj h1] at this; exact this, g2, g3, fun i hi => ?_⟩
      cases m with
      | true => exact hk _ _ _ hi (g2 rfl i) (hK v (val i) (fam i) hi (g4 i hi))
      | false => exact hke (by simpa using gk) _ _ _ hi (hK v (val i) (fam i) hi (g4 i hi))
  cases h with
  | off g k =>
    have hk : ∀ K1 : KG, ∀ u C', (∃ w, C' w) → K1 ((a.put oj.dst u).put ok.dst undef) C' → operG P sx ops ok K1 (a.put oj.dst u) C' := fun K1 u C' _ hK1 => way_iff.2 (.off (by rw [wk u]; exact g) hK1)
    exact behind undef (fun K1 u C' h _ => hk K1 u C' h) k fun _ => hk
  | f g gk v gv k =>
    have hk : ∀ K1 : KG, ∀ u C', (∃ w, C' w) → K1 ((a.put oj.dst u).put ok.dst v) C' → operG P sx ops ok K1 (a.put oj.dst u) C' := fun K1 u C' _ hK1 => way_iff.2 (.f (by rw [wk u]; exact g) gk v (by rw [fAt_put hsk h3]; exact gv) hK1)
    exact behind v (fun K1 u C' h _ => hk K1 u C' h) k fun _ => hk
  | q g gk v gv k =>
    refine behind v (fun K1 u C' _ hsub hK1 => way_iff.2 (.q (by rw [wk u]; exact g) gk v (fun w hw => by rw [qAt_put hsk h3]; exact gv w (hsub w hw)) hK1)) k fun hke => ?_
    rw [gk, hke] at hsw
    cases hsw
  | e g m gk s =>
    obtain ⟨ι, val, fam, g1, g2, g3, g4⟩ := s
    have hjf : kindOf sx oj.op = .f := by
      rw [gk] at hsw
      cases m <;> cases hkj : kindOf sx oj.op <;> rw [hkj] at hsw <;> first | rfl | (cases hsw)
    obtain ⟨w0, hw0⟩ := hC
    obtain ⟨_, w1, i0, _, hi0⟩ := Oper.gives_ex (g1 w0 hw0)
    have k0 : operG P sx ops oj K (a.put ok.dst (val i0)) (fam i0) := g4 i0 ⟨w1, hi0⟩
    rw [way_iff] at k0
    have fin : ∀ u, (∀ i, (∃ w, fam i w) → K ((a.put ok.dst (val i)).put oj.dst u) (fam i)) → operG P sx ops ok K' (a.put oj.dst u) C := fun u hu =>
      way_iff.2 (.e (by rw [wk u]; exact g) m gk ⟨ι, val, fam, fun w hw => by rw [gives_put hsk h3]; exact g1 w hw, g2, g3, fun i hi => hK (val i) u (fam i) hi (hu i hi)⟩)
    cases k0 with
    | off gw _ =>
      refine .off (by rw [← wj (val i0)]; exact gw) (fin undef fun i hi => ?_)
      have : operG P sx ops oj K (a.put ok.dst (val i)) (fam i) := g4 i hi
      unfold operG at this
      rw [if_neg (by rw [wj (val i), ← wj (val i0)]; exact gw)] at this
      exact this
    | f gw _ u gu _ =>
      rw [fAt_put hsj h1] at gu
      refine .f (by rw [← wj (val i0)]; exact gw) hjf u gu (fin u fun i hi => ?_)
      have : operG P sx ops oj K (a.put ok.dst (val i)) (fam i) := g4 i hi
      rw [way_iff] at this
      cases this with
      | off gw' _ => rw [wj (val i), ← wj (val i0)] at gw'; exact (gw' gw).elim
      | f _ _ u' gu' k' =>
        rw [fAt_put hsj h1] at gu'
        have e1 := gu w0
        rw [gu' w0] at e1
        cases e1
        exact k'
      | q _ gk' => rw [hjf] at gk'; cases gk'
      | e _ m' gk' => rw [hjf] at gk'; cases m' <;> cases gk'
    | q _ gk' => rw [hjf] at gk'; cases gk'
    | e _ m' gk' => rw [hjf] at gk'; cases m' <;> cases gk'
end swap

/-! Any order. -/
def wpG (P : Program) (sx : Sx) (ops : Array Oper) (Q : KG) : Nat → Array Bool → Act → WC → Prop
  | 0, listed, a, C => Region.ready .any ops listed = [] ∧ Q a C
  | f + 1, listed, a, C => (Region.ready .any ops listed = [] → Q a C) ∧ ∀ i ∈ Region.ready .any ops listed, opG P sx ops i (wpG P sx ops Q f (listed.setIfInBounds i true)) a C

theorem wpG_sound {sx : Sx} {ops : Array Oper} {Q : KG} {Q' : Exit → Act → World → Prop} (hQ : ∀ a C w, C w → Q a C → Q' .normal a w) : ∀ (f : Nat) (listed : Array Bool) (a : Act) (C : WC) (w : World), Cl C → C w → wpG P sx ops Q f listed a C → wpAny P .any ops Q' f listed a w
  | 0, _, _, _, _, _, hw, h => ⟨h.1, hQ _ _ _ hw h.2⟩
  | f + 1, listed, a, C, w, hcl, hw, h => by
    refine ⟨fun h0 => hQ _ _ _ hw (h.1 h0), fun i hi => ?_⟩
    have hh := h.2 i hi
    have next : ∀ a' C' w', Cl C' → C' w' → wpG P sx ops Q f (listed.setIfInBounds i true) a' C' → wpAny P .any ops Q' f (listed.setIfInBounds i true) a' w' := fun a' C' w' hcl' hw' hg => wpG_sound hQ f _ a' C' w' hcl' hw' hg
    unfold opG at hh
    unfold wpOp
    split at hh
    · rename_i ho; simp only [ho]; exact next _ _ _ hcl hw hh
    · rename_i o ho
      simp only [ho]
      rw [way_iff] at hh
      cases hh with
      | off g k => rw [if_neg g]; exact next _ _ _ hcl hw k
      | f g _ v hv k =>
        rw [if_pos g]
        refine .inl ?_
        unfold Oper.wp
        rw [hv w]
        exact next _ _ _ hcl hw k
      | q g _ v hv k =>
        rw [if_pos g]
        exact .inl (Oper.wp_of_gives (hv w hw) fun u w' hu => by obtain ⟨rfl, hb⟩ := hu; exact next _ _ _ hcl (hcl _ _ hw hb) k)
      | e g m _ s =>
        obtain ⟨ι, val, fam, g1, _, g3, g4⟩ := s
        rw [if_pos g]
        exact .inl (Oper.wp_of_gives (g1 w hw) fun u w' hu => by obtain ⟨i', rfl, hi'⟩ := hu; exact next _ _ _ (g3 i') hi' (g4 i' ⟨_, hi'⟩))

/-! How many operations have not come up. -/
def un (n : Nat) (listed : Array Bool) : Nat := ((List.range n).filter fun j => !listed.getD j true).length
theorem filter_lt {p q : Nat → Bool} : ∀ (l : List Nat), (∀ x ∈ l, p x = true → q x = true) → (∃ x ∈ l, q x = true ∧ p x = false) → (l.filter p).length < (l.filter q).length
  | [], _, h => by obtain ⟨x, hx, _⟩ := h; cases hx
  | x :: r, h1, h2 => by
    have le : ∀ (l : List Nat), (∀ x ∈ l, p x = true → q x = true) → (l.filter p).length ≤ (l.filter q).length := by
      intro l
      induction l with
      | nil => intro _; simp
      | cons y s ih =>
        intro h
        have h3 := ih fun z hz => h z (by simp [hz])
        have h4 := h y (by simp)
        simp only [List.filter_cons]
        cases hp : p y with
        | true => simp [h4 hp]; exact h3
        | false => cases q y <;> simp <;> omega
    have h3 := le r fun z hz => h1 z (by simp [hz])
    simp only [List.filter_cons]
    cases hp : p x with
    | true =>
      have hq := h1 x (by simp) hp
      obtain ⟨y, hy, hqy, hpy⟩ := h2
      rcases List.mem_cons.1 hy with rfl | hy
      · rw [hp] at hpy; cases hpy
      · have := filter_lt r (fun z hz => h1 z (by simp [hz])) ⟨y, hy, hqy, hpy⟩
        simp [hq]; exact this
    | false =>
      cases hq : q x with
      | true => simp; omega
      | false =>
        obtain ⟨y, hy, hqy, hpy⟩ := h2
        rcases List.mem_cons.1 hy with rfl | hy
        · rw [hq] at hqy; cases hqy
        · have := filter_lt r (fun z hz => h1 z (by simp [hz])) ⟨y, hy, hqy, hpy⟩
          simp; exact this
theorem gd_set (L : Array Bool) (i j : Nat) (d : Bool) (hi : i < L.size) : (L.setIfInBounds i true).getD j d = if j = i then true else L.getD j d := by
  by_cases h : j = i
  · subst h; simp [hi]
  · rw [if_neg h]
    simp only [Array.getD_eq_getD_getElem?, Array.getElem?_setIfInBounds]
    rw [if_neg (fun e => h e.symm)]
theorem getD_size {L : Array Bool} {i : Nat} (h : L.getD i true = false) : i < L.size := by
  rcases Nat.lt_or_ge i L.size with h' | h'
  · exact h'
  · simp [Array.getElem?_eq_none h'] at h
theorem un_lt {n i : Nat} {listed : Array Bool} (hi : i < n) (hu : listed.getD i true = false) : un n (listed.setIfInBounds i true) < un n listed := by
  have hs := getD_size hu
  refine filter_lt _ (fun x _ hx => ?_) ⟨i, List.mem_range.2 hi, by simp [hu], by rw [gd_set _ _ _ _ hs, if_pos rfl]; rfl⟩
  rw [gd_set _ _ _ _ hs] at hx
  split at hx
  · cases hx
  · exact hx

theorem gd_two {listed : Array Bool} {x : Nat} (h : listed.getD x true = false) : listed.getD x false = false := by
  have hs := getD_size h
  simp [hs] at h ⊢
  exact h
/-- Does operation j wait for k, through such as have not come up? -/
def depG (ops : Array Oper) (k : Nat) : Nat → Array Bool → Nat → Bool
  | 0, _, _ => false
  | d + 1, listed, j => match ops[j]? with
    | some oj => oj.after.toList.any fun e => Region.binds .any e && (e.on == k || (!listed.getD e.on true && depG ops k d listed e.on))
    | none => false
theorem depG_ready {ops : Array Oper} {k j : Nat} {listed : Array Bool} (hr : j ∈ Region.ready .any ops listed) (hku : listed.getD k true = false) : ∀ d, depG ops k d listed j = false
  | 0 => rfl
  | d + 1 => by
    obtain ⟨hju, oj, hoj, hall⟩ := mem_ready.1 hr
    unfold depG
    rw [hoj]
    simp only
    rw [List.any_eq_false]
    intro e he
    simp only [Bool.and_eq_true, Bool.or_eq_true, beq_iff_eq, Bool.not_eq_true', not_and, not_or]
    intro hb
    have g := hall e (Array.mem_toList_iff.1 he) hb
    refine ⟨fun hk => ?_, fun h => ?_⟩
    · rw [hk, gd_two hku] at g; cases g
    · rw [gd_two h] at g; cases g
theorem depG_mono {ops : Array Oper} {k j : Nat} {listed : Array Bool} (hr : j ∈ Region.ready .any ops listed) (hku : listed.getD k true = false) : ∀ d i, depG ops k d listed i = true → depG ops k d (listed.setIfInBounds j true) i = true
  | 0, _, h => h
  | d + 1, i, h => by
    unfold depG at h ⊢
    split at h
    · rename_i oi hoi
      rw [List.any_eq_true] at h ⊢
      obtain ⟨e, he, h⟩ := h
      refine ⟨e, he, ?_⟩
      simp only [Bool.and_eq_true, Bool.or_eq_true, beq_iff_eq, Bool.not_eq_true'] at h ⊢
      refine ⟨h.1, h.2.imp id fun h2 => ?_⟩
      have hne : e.on ≠ j := fun hj => by
        have := depG_ready hr hku d
        rw [hj, this] at h2
        cases h2.2
      refine ⟨?_, depG_mono hr hku d e.on h2.2⟩
      rw [gd_set _ _ _ _ (getD_size (mem_ready.1 hr).1), if_neg hne]
      exact h2.1
    · cases h

/-- May operation k be taken ahead of all that have not come up? -/
def freeG (sx : Sx) (ops : Array Oper) (listed : Array Bool) (k : Nat) : Bool := match ops[k]? with
  | some ok => (List.range ops.size).all fun j => j == k || listed.getD j true || (match ops[j]? with
    | some oj => depG ops k ops.size listed j || (ok.apart ops oj && swapOK (kindOf sx ok.op) (kindOf sx oj.op))
    | none => true)
  | none => false
theorem freeG_spec {sx : Sx} {ops : Array Oper} {listed : Array Bool} {k : Nat} {ok : Oper} (hk : ops[k]? = some ok) (h : freeG sx ops listed k = true) :
    ∀ j oj, ops[j]? = some oj → j ≠ k → listed.getD j true = false → depG ops k ops.size listed j = false → ok.apart ops oj = true ∧ swapOK (kindOf sx ok.op) (kindOf sx oj.op) = true := by
  intro j oj hj hjk hu hno
  unfold freeG at h
  rw [hk] at h
  have hjs : j < ops.size := (Array.getElem?_eq_some_iff.1 hj).1
  have h1 := List.all_eq_true.1 h j (List.mem_range.2 hjs)
  rw [hj] at h1
  simp only [Bool.or_eq_true, beq_iff_eq, hjk, hu, hno, Bool.false_eq_true, false_or, Bool.and_eq_true] at h1
  exact h1

theorem wpG_first {sx : Sx} {ops : Array Oper} {Q : KG} (hsel : ∀ (j : Nat) (o : Oper) cs b, ops[j]? = some o → o.op ≠ .select cs b) {k : Nat} {ok : Oper} (hk : ops[k]? = some ok) :
    ∀ (f : Nat) (listed : Array Bool) (a : Act) (C : WC), (∃ w, C w) → un ops.size listed ≤ f + 1 →
      (∀ j oj, ops[j]? = some oj → j ≠ k → listed.getD j true = false → depG ops k ops.size listed j = false → ok.apart ops oj = true ∧ swapOK (kindOf sx ok.op) (kindOf sx oj.op) = true) →
      k ∈ Region.ready .any ops listed → opG P sx ops k (wpG P sx ops Q f (listed.setIfInBounds k true)) a C → wpG P sx ops Q (f + 1) listed a C := by
  intro f
  induction f with
  | zero =>
    intro listed a C _ hun _ hr H
    refine ⟨fun h => (by rw [h] at hr; cases hr), fun j hj => ?_⟩
    by_cases hjk : j = k
    · subst hjk; exact H
    · have hku := (mem_ready.1 hr).1
      have hju := (mem_ready.1 hj).1
      obtain ⟨_, oj, hoj, _⟩ := mem_ready.1 hj
      have hjs : j < ops.size := (Array.getElem?_eq_some_iff.1 hoj).1
      have hks : k < ops.size := (Array.getElem?_eq_some_iff.1 hk).1
      have l1 := un_lt hks hku
      have l2 := un_lt (listed := listed.setIfInBounds k true) hjs (by rw [gd_set _ _ _ _ (getD_size hku), if_neg hjk]; exact hju)
      omega
  | succ f ih =>
    intro listed a C hC hun hfree hr H
    refine ⟨fun h => (by rw [h] at hr; cases hr), fun j hj => ?_⟩
    by_cases hjk : j = k
    · subst hjk; exact H
    · obtain ⟨hju, oj, hoj, hall⟩ := mem_ready.1 hj
      have hku := (mem_ready.1 hr).1
      have hjs : j < ops.size := (Array.getElem?_eq_some_iff.1 hoj).1
      have hnot := depG_ready hj hku ops.size
      obtain ⟨hap, hsw⟩ := hfree j oj hoj hjk hju hnot
      have hfree' : ∀ i oi, ops[i]? = some oi → i ≠ k → (listed.setIfInBounds j true).getD i true = false → depG ops k ops.size (listed.setIfInBounds j true) i = false → ok.apart ops oi = true ∧ swapOK (kindOf sx ok.op) (kindOf sx oi.op) = true := fun i oi hi hik hu hno => by
        refine hfree i oi hi hik ?_ (by cases hd : depG ops k ops.size listed i with
          | false => rfl
          | true => rw [depG_mono hj hku _ _ hd] at hno; cases hno)
        rw [gd_set _ _ _ _ (getD_size hju)] at hu
        split at hu
        · cases hu
        · exact hu
      have hun' : un ops.size (listed.setIfInBounds j true) ≤ f + 1 := by
        have := un_lt hjs hju
        omega
      have H1 : operG P sx ops ok (fun a' C' => operG P sx ops oj (wpG P sx ops Q f ((listed.setIfInBounds k true).setIfInBounds j true)) a' C') a C := by
        have H0 : operG P sx ops ok (wpG P sx ops Q (f + 1) (listed.setIfInBounds k true)) a C := by
          unfold opG at H
          rw [hk] at H
          exact H
        refine operG_mono hC (fun a' C' _ hw => ?_) H0
        have := hw.2 j (ready_mono hj hjk)
        unfold opG at this
        rw [hoj] at this
        exact this
      have H2 := swapG (K' := wpG P sx ops Q f ((listed.setIfInBounds j true).setIfInBounds k true)) hC hap (fun cs b => hsel k ok cs b hk) (fun cs b => hsel j oj cs b hoj) hsw (fun v u C' _ hw => by
        rw [Act.put_comm a v u (Oper.apart_spec hap).2.1, Array.setIfInBounds_comm _ _ (Ne.symm hjk)] at hw
        exact hw) H1
      unfold opG
      rw [hoj]
      refine operG_mono hC (fun a' C' hC' hw => ?_) H2
      refine ih (listed.setIfInBounds j true) a' C' hC' hun' hfree' (ready_mono hr (Ne.symm hjk)) ?_
      unfold opG
      rw [hk]
      exact hw

/-- The operations in their lexical order. -/
def walkG (P : Program) (sx : Sx) (ops : Array Oper) (Q : KG) : List Oper → KG
  | [], a, C => Q a C
  | o :: rest, a, C => operG P sx ops o (walkG P sx ops Q rest) a C
def lexG (sx : Sx) (ops : Array Oper) : Nat → Nat → Array Bool → Bool
  | 0, _, listed => (Region.ready .any ops listed).isEmpty
  | f + 1, k, listed => (Region.ready .any ops listed).contains k && freeG sx ops listed k && lexG sx ops f (k + 1) (listed.setIfInBounds k true)
def lexGB (sx : Sx) (ops : Array Oper) : Bool := Region.noSelect ops && lexG sx ops ops.size 0 (Array.replicate ops.size false)
theorem un_zero {n : Nat} {listed : Array Bool} (h : un n listed = 0) {j : Nat} (hj : j < n) : listed.getD j true = true := by
  unfold un at h
  have h1 := List.length_eq_zero_iff.1 h
  have := List.filter_eq_nil_iff.1 h1 j (List.mem_range.2 hj)
  simpa using this
theorem wpG_lex {sx : Sx} {ops : Array Oper} {Q : KG} (hs : Region.noSelect ops = true) : ∀ (l : List Oper) (k : Nat) (listed : Array Bool) (a : Act) (C : WC), (∃ w, C w) → un ops.size listed ≤ l.length → (∀ j, l[j]? = ops[k + j]?) →
    lexG sx ops l.length k listed = true → walkG P sx ops Q l a C → wpG P sx ops Q l.length listed a C
  | [], _, _, _, _, _, _, _, hB, h => ⟨by simpa [lexG] using hB, h⟩
  | o :: l, k, listed, a, C, hC, hun, hl, hB, h => by
    have h0 : ops[k]? = some o := by simpa using (hl 0).symm
    simp only [List.length_cons, lexG, Bool.and_eq_true] at hB
    obtain ⟨⟨hr, hf⟩, hB'⟩ := hB
    have hr' : k ∈ Region.ready .any ops listed := by simpa using hr
    have hks : k < ops.size := (Array.getElem?_eq_some_iff.1 h0).1
    refine wpG_first (Region.noSelect_spec hs) h0 l.length listed a C hC hun (freeG_spec h0 hf) hr' ?_
    unfold opG
    rw [h0]
    refine operG_mono hC (fun a' C' hC' hw => ?_) h
    exact wpG_lex hs l (k + 1) _ a' C' hC' (by have := un_lt hks (mem_ready.1 hr').1; simp only [List.length_cons] at hun; omega) (fun j => by have := hl (j + 1); simpa [Nat.add_assoc, Nat.add_comm 1 j] using this) hB' hw

theorem un_all (n : Nat) (listed : Array Bool) : un n listed ≤ n := by
  have := List.length_filter_le (fun j => !listed.getD j true) (List.range n)
  simpa [un] using this
theorem wp_region_G {sx : Sx} {ops : Array Oper} {id : Nat} {Q : Exit → Act → World → Prop} {a : Act} {w : World} {C : WC} (hm : P.follows .mixedOrders = true) (hB : lexGB sx ops = true) (hcl : Cl C) (hC : C { w with drawn := w.drawn + 1 })
    (h : walkG P sx ops (fun a' C' => ∀ w', C' w' → Q .normal a' w') ops.toList a C) : (Code.region id ops true).wp P Q a w := by
  simp only [lexGB, Bool.and_eq_true] at hB
  refine wp_region_any hm (wpG_sound (sx := sx) (Q := fun a' C' => ∀ w', C' w' → Q .normal a' w') (fun _ _ w' hw' h => h w' hw') _ _ a C _ hcl hC ?_)
  have := wpG_lex (P := P) (sx := sx) (Q := fun a' C' => ∀ w', C' w' → Q .normal a' w') hB.1 ops.toList 0 (Array.replicate ops.size false) a C ⟨_, hC⟩ (by simpa using un_all ops.size _) (by simp) (by simpa using hB.2) h
  simpa using this
/-! Regions walked by a tree of orders: an operation that may be taken first is; where none may, all that are ready branch. -/
def treeOK (sx : Sx) (ops : Array Oper) : OT → Array Bool → List Nat → Bool
  | .done, listed, _ => (Region.ready .any ops listed).isEmpty
  | .one k t, listed, _ => (Region.ready .any ops listed).contains k && freeG sx ops listed k && treeOK sx ops t (listed.setIfInBounds k true) []
  | .alt k t r, listed, acc => treeOK sx ops t (listed.setIfInBounds k true) [] && treeOK sx ops r listed (k :: acc)
  | .stop, listed, acc => !(Region.ready .any ops listed).isEmpty && (Region.ready .any ops listed).all fun i => acc.contains i
def treeG (P : Program) (sx : Sx) (ops : Array Oper) (Q : KG) : OT → KG
  | .done, a, C => Q a C
  | .one k t, a, C => opG P sx ops k (treeG P sx ops Q t) a C
  | .alt k t r, a, C => opG P sx ops k (treeG P sx ops Q t) a C ∧ treeG P sx ops Q r a C
  | .stop, _, _ => True
theorem un_pos {ops : Array Oper} {listed : Array Bool} {k : Nat} (h : k ∈ Region.ready .any ops listed) : 0 < un ops.size listed := by
  obtain ⟨hu, o, ho, _⟩ := mem_ready.1 h
  have hks : k < ops.size := (Array.getElem?_eq_some_iff.1 ho).1
  exact Nat.lt_of_le_of_lt (Nat.zero_le _) (un_lt hks hu)
theorem wpG_tree {sx : Sx} {ops : Array Oper} {Q : KG} (hs : Region.noSelect ops = true) : ∀ (T : OT) (f : Nat) (listed : Array Bool) (acc : List Nat) (a : Act) (C : WC), (∃ w, C w) → un ops.size listed ≤ f → treeOK sx ops T listed acc = true →
    treeG P sx ops Q T a C → (∀ k ∈ acc, ∀ f', f = f' + 1 → k ∈ Region.ready .any ops listed → opG P sx ops k (wpG P sx ops Q f' (listed.setIfInBounds k true)) a C) → wpG P sx ops Q f listed a C
  | .done, f, listed, acc, a, C, _, _, hB, h, _ => by
    have h0 : Region.ready .any ops listed = [] := by simpa [treeOK] using hB
    cases f with
    | zero => exact ⟨h0, h⟩
    | succ f => exact ⟨fun _ => h, fun i hi => by rw [h0] at hi; cases hi⟩
  | .one k t, f, listed, acc, a, C, hC, hun, hB, h, _ => by
    simp only [treeOK, Bool.and_eq_true] at hB
    obtain ⟨⟨hr, hf⟩, hB'⟩ := hB
    have hr' : k ∈ Region.ready .any ops listed := by simpa using hr
    obtain ⟨hu, ok, hk, _⟩ := mem_ready.1 hr'
    have hks : k < ops.size := (Array.getElem?_eq_some_iff.1 hk).1
    have hpos := un_pos hr'
    obtain ⟨f', rfl⟩ : ∃ f', f = f' + 1 := ⟨f - 1, by omega⟩
    refine wpG_first (Region.noSelect_spec hs) hk f' listed a C hC hun (freeG_spec hk hf) hr' ?_
    refine opG_mono hC (fun a' C' hC' hw => ?_) h
    exact wpG_tree hs t f' _ [] a' C' hC' (by have := un_lt hks hu; omega) hB' hw (fun k hk => by cases hk)
  | .alt k t r, f, listed, acc, a, C, hC, hun, hB, h, hacc => by
    simp only [treeOK, Bool.and_eq_true] at hB
    refine wpG_tree hs r f listed (k :: acc) a C hC hun hB.2 h.2 fun j hj f' hf' hjr => ?_
    rcases List.mem_cons.1 hj with rfl | hj
    · obtain ⟨hu, ok, hk, _⟩ := mem_ready.1 hjr
      have hks : j < ops.size := (Array.getElem?_eq_some_iff.1 hk).1
      refine opG_mono hC (fun a' C' hC' hw => ?_) h.1
      exact wpG_tree hs t f' _ [] a' C' hC' (by have := un_lt hks hu; omega) hB.1 hw (fun k hk => by cases hk)
    · exact hacc j hj f' hf' hjr
  | .stop, f, listed, acc, a, C, hC, hun, hB, _, hacc => by
    simp only [treeOK, Bool.and_eq_true] at hB
    obtain ⟨h0, h1⟩ := hB
    have h0' : Region.ready .any ops listed ≠ [] := by intro e; rw [e] at h0; cases h0
    obtain ⟨k, hk⟩ := List.exists_mem_of_ne_nil _ h0'
    have hpos := un_pos hk
    obtain ⟨f', rfl⟩ : ∃ f', f = f' + 1 := ⟨f - 1, by omega⟩
    refine ⟨fun e => absurd e h0', fun i hi => hacc i ?_ f' rfl hi⟩
    have := List.all_eq_true.1 h1 i hi
    simpa using this
def treeB (sx : Sx) (ops : Array Oper) (T : OT) : Bool := Region.noSelect ops && treeOK sx ops T (Array.replicate ops.size false) []
theorem wp_region_T {sx : Sx} {ops : Array Oper} {id : Nat} {Q : Exit → Act → World → Prop} {a : Act} {w : World} {C : WC} {T : OT} (hm : P.follows .mixedOrders = true) (hB : treeB sx ops T = true) (hcl : Cl C) (hC : C { w with drawn := w.drawn + 1 })
    (h : treeG P sx ops (fun a' C' => ∀ w', C' w' → Q .normal a' w') T a C) : (Code.region id ops true).wp P Q a w := by
  simp only [treeB, Bool.and_eq_true] at hB
  refine wp_region_any hm (wpG_sound (sx := sx) (Q := fun a' C' => ∀ w', C' w' → Q .normal a' w') (fun _ _ w' hw' h => h w' hw') _ _ a C _ hcl hC ?_)
  exact wpG_tree (P := P) (sx := sx) hB.1 T _ _ [] a C ⟨_, hC⟩ (by simpa using un_all ops.size _) hB.2 h (fun k hk => by cases hk)
end
end Go.Proofs.Ytnlbljikbonioaa
