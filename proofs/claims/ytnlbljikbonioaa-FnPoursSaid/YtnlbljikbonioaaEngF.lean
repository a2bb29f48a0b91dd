/- The engine: code and functions. -/
import Derived.Test.YtnlbljikbonioaaEngX
set_option maxRecDepth 100000
set_option linter.unusedSimpArgs false
set_option linter.unusedVariables false
namespace Go.Proofs.Ytnlbljikbonioaa
open Go Go.RowKit

inductive Ex where
  | normal | exit (id : Nat) | ret
abbrev KE := Ex → Env → Heap → Nat → Prop
def seqK (f : Env → Heap → Nat → KE → Prop) (K : KE) : KE := fun e S H n => match e with
  | .normal => f S H n K
  | .exit id => K (.exit id) S H n
  | .ret => K .ret S H n
def blockK (id : Nat) (K : KE) : KE := fun e S H n => match e with
  | .normal => K .normal S H n
  | .exit id' => if id' = id then K .normal S H n else K (.exit id') S H n
  | .ret => K .ret S H n
def normK (K : KE) : KR := fun S H n => K .normal S H n

/-- What is asked of a state that a loop's head meets: entries of the slots and blocks under a renaming. -/
def subS (ρ : Nat → Nat) (S : Env) : Env → Prop
  | [] => True
  | (t, v) :: r => (sget S t = v.ren ρ ∧ v.known = true) ∧ subS ρ S r
def subH (ρ : Nat → Nat) (m : Nat) (H : Heap) : Heap → Prop
  | [] => True
  | (k, o) :: r => (hget H (ρ k) = some (o.ren ρ) ∧ (m ≤ k → m ≤ ρ k)) ∧ subH ρ m H r
def wfS (n : Nat) : Env → Prop
  | [] => True
  | (_, v) :: r => v.wf n ∧ wfS n r
def wfH (n : Nat) : Heap → Prop
  | [] => True
  | (k, o) :: r => (k < n ∧ o.wf n) ∧ wfH n r
def injOn (ρ : Nat → Nat) (l : List Nat) : Prop := ∀ a ∈ l, ∀ b ∈ l, ρ a = ρ b → a = b
def subHs (ρ : Nat → Nat) (m : Nat) (H H' : Heap) : Prop := ∀ k o, hget H' k = some o → hget H (ρ k) = some (o.ren ρ) ∧ (m ≤ k → m ≤ ρ k) ∧ k ∈ H'.map (·.1)
def Sub (p m : Nat) (S : Env) (H : Heap) (S' : Env) (H' : Heap) (n' : Nat) : Prop :=
  ∃ ρ : Nat → Nat, subS ρ S S' ∧ subHs ρ m H H' ∧ wfS n' S' ∧ hwf n' H' ∧ injOn ρ (H'.map (·.1)) ∧ (∀ k, k < p → ρ k = k) ∧ p ≤ n'

def loopK {ι : Type} (p m : Nat) (Sι : ι → Env) (Hι : ι → Heap) (nι : ι → Nat) (φ : ι → Prop) (μ : ι → Nat) (i : ι) (K : KE) : KE := fun e S H n => match e with
  | .normal => ∃ j, φ j ∧ μ j < μ i ∧ Sub p m S H (Sι j) (Hι j) (nι j)
  | .exit id => K (.exit id) S H n
  | .ret => K .ret S H n

/-- Some regions are walked in a way of their own. -/
def joinK {ι : Type} (p m : Nat) (S : ι → Env) (H : ι → Heap) (n : ι → Nat) : KR := fun S' H' _ => ∃ i, Sub p m S' H' (S i) (H i) (n i)
/-- A region, in one of three ways. -/
def regB (X : Cx) (p : Nat) (o : Option RM) (draw : Bool) (ops : Array Oper) (l : List Oper) (S : Env) (H : Heap) (n : Nat) (K : KE) : Prop := match o with
  | none => opsVC X draw ops l S H n (normK K)
  | some (.tree T) => draw = true ∧ ∃ (ι : Type) (S' : ι → Env) (H' : ι → Heap) (n' : ι → Nat), treeVC X ops T S H n (joinK p X.m S' H' n') ∧ ∀ i, K .normal (S' i) (H' i) (n' i)
  | some (.holes ts) => draw = true ∧ startH ts S H fun H' => opsVH X ops l S H' n (normK K)
/-- The conditions under which a piece of code does what K says. -/
def codeVC (X : Cx) (p : Nat) : Code → Env → Heap → Nat → KE → Prop
  | .skip, S, H, n, K => K .normal S H n
  | .region id ops draw, S, H, n, K => regB X p (X.hr.lookup id) draw ops ops.toList S H n K
  | .seq a b, S, H, n, K => codeVC X p a S H n (seqK (codeVC X p b) K)
  | .cond c x y, S, H, n, K => match ev S c with
    | .bool b => (b = true → codeVC X p x S H n K) ∧ (b = false → codeVC X p y S H n K)
    | _ => False
  | .block id c, S, H, n, K => codeVC X p c S H n (blockK id K)
  | .loop c, S, H, n, K => ∃ (ι : Type) (Sι : ι → Env) (Hι : ι → Heap) (nι : ι → Nat) (φ : ι → Prop) (μ : ι → Nat),
      (∃ j, φ j ∧ Sub p X.m S H (Sι j) (Hι j) (nι j)) ∧ ∀ i, φ i → codeVC X p c (Sι i) (Hι i) (nι i) (loopK p X.m Sι Hι nι φ μ i K)
  | .exit id, S, H, n, K => K (.exit id) S H n
  | .ret, S, H, n, K => K .ret S H n
  | _, _, _, _, _ => False

/-- What is asked of the code's text itself. -/
def regOK (sx : List Nat) (ops : Array Oper) : Option RM → Bool
  | none => lexGB ⟨sx, false⟩ ops
  | some (.holes _) => lexGB ⟨sx, true⟩ ops
  | some (.tree T) => treeB ⟨sx, false⟩ ops T
def codeOK (sx : List Nat) (hr : List (Nat × RM)) (N : Nat) : Code → Bool
  | .region id ops draw => dstsOK N ops.toList && (!draw || regOK sx ops (hr.lookup id))
  | .seq a b => codeOK sx hr N a && codeOK sx hr N b
  | .cond _ x y => codeOK sx hr N x && codeOK sx hr N y
  | .block _ c => codeOK sx hr N c
  | .loop c => codeOK sx hr N c
  | _ => true

def Ex.to : Ex → Exit
  | .normal => .normal
  | .exit id => .exit id
  | .ret => .ret

section
variable {X : Cx} {N p : Nat} {M : Nat → Prop}

theorem wfS_spec {n : Nat} : ∀ {S : Env}, wfS n S → swf n S
  | [], _ => fun t v h => by cases h
  | (t0, v0) :: r, h => fun t v hl => by
    rw [List.lookup_cons] at hl
    by_cases ht : t = t0
    · subst ht; simp at hl; subst hl; exact h.1
    · have : (t == t0) = false := by simpa using ht
      rw [this] at hl
      exact wfS_spec h.2 t v hl
theorem wfH_spec {n : Nat} : ∀ {H : Heap}, wfH n H → hwf n H
  | [], _ => fun k o h => by cases h
  | (k0, o0) :: r, h => fun k o hl => by
    rw [hget_cons] at hl
    split at hl
    · rename_i hk; subst hk; cases hl; exact h.1
    · exact wfH_spec h.2 k o hl
theorem subS_spec {ρ : Nat → Nat} {S : Env} : ∀ {S' : Env}, subS ρ S S' → ∀ t v, S'.lookup t = some v → sget S t = v.ren ρ ∧ v.known = true
  | [], _, t, v, hl => by cases hl
  | (t0, v0) :: r, h, t, v, hl => by
    rw [List.lookup_cons] at hl
    by_cases ht : t = t0
    · subst ht; simp at hl; subst hl; exact h.1
    · have : (t == t0) = false := by simpa using ht
      rw [this] at hl
      exact subS_spec h.2 t v hl
theorem subH_spec {ρ : Nat → Nat} {m : Nat} {H : Heap} : ∀ {H' : Heap}, subH ρ m H H' → subHs ρ m H H'
  | [], _, k, o, hl => by cases hl
  | (k0, o0) :: r, h, k, o, hl => by
    rw [hget_cons] at hl
    split at hl
    · rename_i hk; subst hk; cases hl; exact ⟨h.1.1, h.1.2, by simp⟩
    · have := subH_spec h.2 k o hl
      exact ⟨this.1, this.2.1, by simp [this.2.2]⟩
theorem known_ren {ρ : Nat → Nat} (v : SV) : (v.ren ρ).known = v.known := by cases v <;> rfl

theorem Sub.mk_id {p m : Nat} {S S' : Env} {H H' : Heap} {n' : Nat} (h1 : subS (fun k => k) S S') (h2 : subH (fun k => k) m H H') (h3 : wfS n' S') (h4 : wfH n' H') (h5 : p ≤ n') : Sub p m S H S' H' n' :=
  ⟨fun k => k, h1, subH_spec h2, h3, wfH_spec h4, fun _ _ _ _ h => h, fun _ _ => rfl, h5⟩
theorem mem_keys {H : Heap} {k : Nat} {o : SObj} (h : hget H k = some o) : k ∈ H.map (·.1) := by
  induction H with
  | nil => cases h
  | cons q H ih =>
    obtain ⟨b, o'⟩ := q
    rw [hget_cons] at h
    split at h
    · rename_i e; subst e; simp
    · simp [ih h]
theorem Sub.same {p m : Nat} {S S' : Env} {H : Heap} {n' : Nat} (h1 : subS (fun k => k) S S') (h3 : wfS n' S') (h4 : hwf n' H) (h5 : p ≤ n') : Sub p m S H S' H n' :=
  ⟨fun k => k, h1, fun k o h => ⟨by rw [SObj.ren_id]; exact h, fun h => h, mem_keys h⟩, h3, h4, fun _ _ _ _ h => h, fun _ _ => rfl, h5⟩

theorem Gs.sub {S S' : Env} {H H' : Heap} {n n' : Nat} {B : Nat → Nat} {a : Act} {w : World} (h : Gs X N p M S H n B a w) (hs : Sub p X.m S H S' H' n') : ∃ B', Gs X N p M S' H' n' B' a w ∧ Rel p M B w B' w := by
  obtain ⟨ρ, h1, h2, h3, h4, h5, h6, h7⟩ := hs
  refine ⟨fun k => B (ρ k), ⟨⟨h.sr.size, h.sr.df, fun t v hl hk => ?_⟩, wfS_spec h3, ⟨fun k o hl hk => ?_, fun k j o o' g1 g2 g3 g4 he => ?_⟩, h4, fun k o hl hk hm => ?_, h.new, h7⟩, fun k hk => by simp [h6 k hk], Kept.refl _ _⟩
  · obtain ⟨e1, e2⟩ := subS_spec h1 t v hl
    have := h.slot e1 (by rw [known_ren]; exact e2)
    rw [SV.den_ren] at this
    exact this
  · obtain ⟨e1, _, _⟩ := h2 k o hl
    have := h.hr.at_ _ _ e1 (by rw [SObj.live_ren]; exact hk)
    rw [SObj.sat_ren] at this
    exact this
  · obtain ⟨e1, _, m1⟩ := h2 k o g1
    obtain ⟨e2, _, m2⟩ := h2 j o' g3
    exact h5 k m1 j m2 (h.hr.inj _ _ _ _ e1 (by rw [SObj.live_ren]; exact g2) e2 (by rw [SObj.live_ren]; exact g4) he)
  · obtain ⟨e1, e2, _⟩ := h2 k o hl
    exact h.own _ _ e1 (by rw [SObj.live_ren]; exact hk) (e2 hm)

/-- A loop whose measure stands in no slot. -/
theorem wp_loop_ghost {P : Program} {c : Code} {Q : Exit → Act → World → Prop} {ι : Type} (I : ι → Act → World → Prop) (μ : ι → Nat) {i0 : ι} {a : Act} {w : World} (h0 : I i0 a w)
    (round : ∀ i a w, I i a w → c.wp P (Exit.then (fun a' w' => ∃ j, I j a' w' ∧ μ j < μ i) Q) a w) : (Code.loop c).wp P Q a w := by
  intro b k cs
  have key : ∀ n i a w, μ i = n → I i a w →
      ∃ e a' w', Q e a' w' ∧ Arrives P (lone (b.at a (.code c :: .inLoop c :: k)) cs w) b k cs e a' w' := by
    intro n
    induction n using Nat.strongRecOn with
    | _ n ih =>
      intro i a w hn hI
      obtain ⟨e, a₁, w₁, hq, harr⟩ := round i a w hI b (.inLoop c :: k) cs
      cases e with
      | normal =>
        obtain ⟨j, hI₁, hlt⟩ := hq
        obtain ⟨e₂, a₂, w₂, hq₂, harr₂⟩ := ih (μ j) (hn ▸ hlt) j a₁ w₁ rfl hI₁
        exact ⟨e₂, a₂, w₂, hq₂, .of_steps (Steps.trans harr (.one step_inLoop)) harr₂⟩
      | exit id => exact ⟨_, a₁, w₁, hq, .pass (x := .inLoop c) rfl (fun _ _ => .inl (by simp)) harr⟩
      | goto l => exact ⟨_, a₁, w₁, hq, .pass (x := .inLoop c) rfl (fun _ _ => .inl (by simp)) harr⟩
      | ret => exact ⟨_, a₁, w₁, hq, .pass (x := .inLoop c) rfl (fun _ _ => .inl (by simp)) harr⟩
      | panic ch => exact ⟨_, a₁, w₁, hq, .pass (x := .inLoop c) rfl (fun _ _ => .inl (by simp)) harr⟩
      | outgrown => exact ⟨_, a₁, w₁, hq, .pass (x := .inLoop c) rfl (fun _ _ => .inl (by simp)) harr⟩
  obtain ⟨e, a', w', hq, harr⟩ := key _ i0 a w rfl h0
  exact ⟨e, a', w', hq, .of_steps (.one step_loop) harr⟩

theorem code_sound (hX : CxOK X) : ∀ (c : Code) (S : Env) (H : Heap) (n : Nat) (B : Nat → Nat) (a : Act) (w : World) (K : KE) (Q : Exit → Act → World → Prop), codeOK X.sx X.hr N c = true → Gs X N p M S H n B a w → codeVC X p c S H n K →
    (∀ e S' H' n' B' a' w', K e S' H' n' → Gs X N p M S' H' n' B' a' w' → Rel p M B w B' w' → Q e.to a' w') → c.wp X.P Q a w
  | .skip, S, H, n, B, a, w, K, Q, _, hg, h, hQ => wp_skip (hQ .normal S H n B a w h hg (Rel.refl _ _ _ _))
  | .region id ops draw, S, H, n, B, a, w, K, Q, hc, hg, h, hQ => by
    simp only [codeOK, Bool.and_eq_true] at hc
    unfold codeVC at h
    cases hlk : X.hr.lookup id with
    | none =>
      rw [hlk] at h hc
      simp only [regB] at h
      cases draw with
      | false =>
        exact wp_region_list (ops_sound hX ops ops.toList S H n B a w hc.1 hg h fun S' H' n' B' a' w' k g r => hQ .normal S' H' n' B' a' w' k g r)
      | true =>
        have hl : lexGB ⟨X.sx, false⟩ ops = true := by simpa [regOK] using hc.2
        have hC0 : cls M w B H { w with drawn := w.drawn + 1 } := ⟨⟨hg.hr.at_, hg.hr.inj⟩, Kept.drew w⟩
        refine wp_region_G (sx := ⟨X.sx, false⟩) (C := cls M w B H) hX.mixed hl (cls_cl _ _ _ _) hC0 ?_
        exact ops_G hX ops rfl hg.new ops.toList S H n B a w hc.1 hg (Kept.refl _ _) (fun _ _ => rfl) h fun S' H' n' B' a' w' k g r => hQ .normal S' H' n' B' a' w' k g r
    | some rm =>
      rw [hlk] at h hc
      cases rm with
      | tree T =>
      simp only [regB] at h
      obtain ⟨rfl, ι, S', H', n', h, hk⟩ := h
      have hl : treeB ⟨X.sx, false⟩ ops T = true := by simpa [regOK] using hc.2
      have hC0 : cls M w B H { w with drawn := w.drawn + 1 } := ⟨⟨hg.hr.at_, hg.hr.inj⟩, Kept.drew w⟩
      refine wp_region_T (sx := ⟨X.sx, false⟩) (C := cls M w B H) hX.mixed hl (cls_cl _ _ _ _) hC0 ?_
      refine tree_G hX ops hg.new (fun k o ho => dstsOK_mem hc.1 ho) (fun S1 H1 n1 B1 a1 w1 k g r => ?_) T S H n B a w hg (Kept.refl _ _) (fun _ _ => rfl) h
      obtain ⟨i, k⟩ := k
      obtain ⟨B2, hg2, hr2⟩ := g.sub k
      exact hQ .normal (S' i) (H' i) (n' i) B2 a1 w1 (hk i) hg2 (r.trans hr2)
      | holes ts =>
      simp only [regB] at h
      obtain ⟨rfl, h⟩ := h
      obtain ⟨H', h1, h2, h3, h4⟩ := startH_sound ts h hg.hwf
      have hl : lexGB ⟨X.sx, true⟩ ops = true := by simpa [regOK] using hc.2
      have hg' : Gs X N p M S H' n B a w := ⟨hg.sr, hg.swf, h3 w hg.hr, h2, h4 _ hg.own, hg.new, hg.p⟩
      have hC0 : cls M w B H' { w with drawn := w.drawn + 1 } := ⟨⟨hg'.hr.at_, hg'.hr.inj⟩, Kept.drew w⟩
      refine wp_region_G (sx := ⟨X.sx, true⟩) (C := cls M w B H') hX.mixed hl (cls_cl _ _ _ _) hC0 ?_
      exact ops_H hX ops hg.new ops.toList S H' n B a w hc.1 hg' (Kept.refl _ _) (fun _ _ => rfl) h1 fun S' H' n' B' a' w' k g r => hQ .normal S' H' n' B' a' w' k g r
  | .seq x y, S, H, n, B, a, w, K, Q, hc, hg, h, hQ => by
    simp only [codeOK, Bool.and_eq_true] at hc
    unfold codeVC at h
    refine wp_seq (code_sound hX x S H n B a w _ _ hc.1 hg h fun e S' H' n' B' a' w' k g r => ?_)
    cases e with
    | normal => exact code_sound hX y S' H' n' B' a' w' K Q hc.2 g k fun e S'' H'' n'' B'' a'' w'' k' g' r' => hQ e S'' H'' n'' B'' a'' w'' k' g' (r.trans r')
    | exit id => exact hQ (.exit id) S' H' n' B' a' w' k g r
    | ret => exact hQ .ret S' H' n' B' a' w' k g r
  | .cond c x y, S, H, n, B, a, w, K, Q, hc, hg, h, hQ => by
    simp only [codeOK, Bool.and_eq_true] at hc
    unfold codeVC at h
    split at h
    · rename_i b hb
      have he := ev_den hg.sr c (by rw [hb]; rfl)
      rw [hb] at he
      cases b with
      | true => exact wp_cond (t := true) he (code_sound hX x S H n B a w K Q hc.1 hg (h.1 rfl) hQ)
      | false => exact wp_cond (t := false) he (code_sound hX y S H n B a w K Q hc.2 hg (h.2 rfl) hQ)
    · exact h.elim
  | .block id c, S, H, n, B, a, w, K, Q, hc, hg, h, hQ => by
    unfold codeVC at h
    refine wp_block (code_sound hX c S H n B a w _ _ hc hg h fun e S' H' n' B' a' w' k g r => ?_)
    cases e with
    | normal => exact hQ .normal S' H' n' B' a' w' k g r
    | exit id' =>
      simp only [blockK] at k
      simp only [Ex.to, Exit.inBlock]
      split at k
      · rename_i hid; rw [if_pos hid]; exact hQ .normal S' H' n' B' a' w' k g r
      · rename_i hid; rw [if_neg hid]; exact hQ (.exit id') S' H' n' B' a' w' k g r
    | ret => exact hQ .ret S' H' n' B' a' w' k g r
  | .loop c, S, H, n, B, a, w, K, Q, hc, hg, h, hQ => by
    unfold codeVC at h
    obtain ⟨ι, Sι, Hι, nι, φ, μ, ⟨j0, hj0, hsub⟩, hround⟩ := h
    obtain ⟨B0, hg0, hr0⟩ := hg.sub hsub
    refine wp_loop_ghost (fun i a' w' => φ i ∧ ∃ B', Gs X N p M (Sι i) (Hι i) (nι i) B' a' w' ∧ Rel p M B w B' w') μ (i0 := j0) ⟨hj0, B0, hg0, hr0⟩ ?_
    intro i a1 w1 ⟨hi, B1, hg1, hr1⟩
    refine code_sound hX c (Sι i) (Hι i) (nι i) B1 a1 w1 _ _ hc hg1 (hround i hi) fun e S' H' n' B' a' w' k g r => ?_
    cases e with
    | normal =>
      obtain ⟨j, hj, hμ, hs⟩ := k
      obtain ⟨B2, hg2, hr2⟩ := g.sub hs
      exact ⟨j, ⟨hj, B2, hg2, hr1.trans (r.trans hr2)⟩, hμ⟩
    | exit id => exact hQ (.exit id) S' H' n' B' a' w' k g (hr1.trans r)
    | ret => exact hQ .ret S' H' n' B' a' w' k g (hr1.trans r)
  | .exit id, S, H, n, B, a, w, K, Q, _, hg, h, hQ => wp_exit (hQ (.exit id) S H n B a w h hg (Rel.refl _ _ _ _))
  | .ret, S, H, n, B, a, w, K, Q, _, hg, h, hQ => wp_ret (hQ .ret S H n B a w h hg (Rel.refl _ _ _ _))
  | .scope _, _, _, _, _, _, _, _, _, _, _, h, _ => h.elim
  | .label _, _, _, _, _, _, _, _, _, _, _, h, _ => h.elim
  | .goto _, _, _, _, _, _, _, _, _, _, _, h, _ => h.elim
  | .refuse _, _, _, _, _, _, _, _, _, _, _, h, _ => h.elim
  | .rangeFunc _ _ _ _, _, _, _, _, _, _, _, _, _, _, h, _ => h.elim
end

/-! Functions. -/
def argS : Nat → List SV → Env
  | _, [] => []
  | k, v :: r => (k, v) :: argS (k + 1) r
def packR : List SV → SV
  | [v] => v
  | l => .tup l
/-- What the call hands back. -/
def resVC (τ : Tys) (S : Env) (H : Heap) (n : Nat) (κ : K1) : List ResultVar → List SV → Prop
  | [], acc => κ (packR acc.reverse) H n
  | .tmp t :: r, acc => (sget S t).known = true ∧ resVC τ S H n κ r (sget S t :: acc)
  | .cell a t :: r, acc => loadVC (τ t) (sget S a) H n fun v _ _ => v.known = true ∧ resVC τ S H n κ r (v :: acc)
def retK (τ : Tys) (rs : List ResultVar) (κ : K1) : KE := fun e S H n => match e with
  | .normal => resVC τ S H n κ rs []
  | .ret => resVC τ S H n κ rs []
  | .exit _ => False

theorem argS_lookup : ∀ (l : List SV) (k t : Nat), (argS k l).lookup t = if t < k then none else l[t - k]?
  | [], k, t => by simp [argS]
  | v :: r, k, t => by
    simp only [argS, List.lookup_cons]
    by_cases h : t = k
    · subst h; simp
    · have hb : (t == k) = false := by simpa using h
      rw [hb]
      simp only [argS_lookup r (k + 1) t]
      by_cases h1 : t < k
      · rw [if_pos h1, if_pos (by omega)]
      · rw [if_neg h1, if_neg (by omega)]
        have : t - k = (t - (k + 1)) + 1 := by omega
        rw [this]
        simp

section
variable {P : Program} {τ : Tys} {B : Nat → Nat} {M : Nat → Prop}

/-- One result as the machine reads it. -/
def resSem (tmps : Array Value) : ResultVar → Sem Value := fun x => match x with
  | .tmp t => pure (tmps.getD t undef)
  | .cell a t => do loadVar t (← asAddr (tmps.getD a undef))

theorem mapM_run {α β : Type} {g : α → Sem β} {w : World} {f : α → β} : ∀ (l : List α), (∀ x ∈ l, (g x).run P w = .ok (f x) w) → (l.mapM g).run P w = .ok (l.map f) w
  | [], _ => by simp
  | x :: l, h => by
    simp only [List.mapM_cons, Sem.run_bind]
    rw [h x (by simp)]
    simp only [Result.andThen_ok]
    rw [mapM_run l fun y hy => h y (by simp [hy])]
    simp

def packV : List Value → Value
  | [v] => v
  | l => .tuple l.toArray
theorem results_run {fn : Func} {tmps : Array Value} {w : World} {vs : List Value} (h : (fn.results.toList.mapM (resSem tmps)).run P w = .ok vs w) (hv : vs.length = fn.results.size) :
    (results fn tmps).run P w = .ok (packV vs) w := by
  have h' : (fn.results.mapM (resSem tmps)).run P w = .ok vs.toArray w := by
    rw [Array.mapM_eq_mapM_toList]
    simp only [Sem.run_map, h, Result.andThen_ok]
  have e : results fn tmps = (do
      let vs ← fn.results.mapM (resSem tmps)
      pure (if h : vs.size = 1 then vs[0] else .tuple vs)) := rfl
  rw [e, Sem.run_bind, h']
  simp only [Result.andThen_ok, Sem.run_pure]
  congr 1
  clear h h' hv e
  match vs with
  | [] => rfl
  | [v] => rfl
  | v :: u :: r => simp [packV]

theorem res_sound {N : Nat} {S : Env} {H : Heap} {n : Nat} {a : Act} {w : World} {κ : K1} (hτ : TysOK P τ) (hS : SR B N S a) (hwS : swf n S) (hH : HR B H w) (hwH : hwf n H) :
    ∀ (rs : List ResultVar) (acc : List SV), resVC τ S H n κ rs acc → (∀ v ∈ acc, v.wf n ∧ v.known = true) → ∃ l : List SV, l.length = rs.length ∧ κ (packR (acc.reverse ++ l)) H n ∧ (∀ v ∈ l, v.wf n ∧ v.known = true) ∧ (rs.mapM (resSem a.tmps)).run P w = .ok (l.map (SV.den B)) w
  | [], acc, h, hacc => ⟨[], rfl, by simpa [resVC] using h, by simp, by simp⟩
  | .tmp t :: r, acc, h, hacc => by
    obtain ⟨hk, h⟩ := h
    have hw := sget_wf hwS t
    obtain ⟨l, h1, h2, h3, h4⟩ := res_sound hτ hS hwS hH hwH r (sget S t :: acc) h (fun v hv => by cases hv with | head => exact ⟨hw, hk⟩ | tail _ hv => exact hacc v hv)
    refine ⟨sget S t :: l, by simp [h1], by simpa using h2, fun v hv => by cases hv with | head => exact ⟨hw, hk⟩ | tail _ hv => exact h3 v hv, ?_⟩
    have hd : a.tmps.getD t undef = (sget S t).den B := ev_den hS (.tmp t) hk
    simp only [List.mapM_cons, Sem.run_bind]
    have : (resSem a.tmps (.tmp t)).run P w = .ok ((sget S t).den B) w := by rw [← hd]; rfl
    rw [this]
    simp only [Result.andThen_ok, h4, Sem.run_pure, List.map_cons]
  | .cell p t :: r, acc, h, hacc => by
    unfold resVC at h
    have hk : (sget S p).known = true := knownOf fun e => by rw [e] at h; exact h
    have hd : a.tmps.getD p undef = (sget S p).den B := ev_den hS (.tmp p) hk
    obtain ⟨v, x, g1, g2, ⟨g3, g4⟩, g5⟩ := load_sound (P := P) (B := B) hτ hwH h
    obtain ⟨l, h1, h2, h3, h4⟩ := res_sound hτ hS hwS hH hwH r (v :: acc) g4 (fun u hu => by cases hu with | head => exact ⟨g1, g3⟩ | tail _ hu => exact hacc u hu)
    refine ⟨v :: l, by simp [h1], by simpa using h2, fun u hu => by cases hu with | head => exact ⟨g1, g3⟩ | tail _ hu => exact h3 u hu, ?_⟩
    have h5 := g5 w hH
    have hx := g2 g3
    subst hx
    have hp : ∃ b off, sget S p = .ptr b off := by
      unfold loadVC at h
      split at h
      · rename_i b off e; exact ⟨b, off, by first | rfl | assumption⟩
      · exact h.elim
    obtain ⟨b, off, hb⟩ := hp
    rw [hb] at h5 hd
    have h6 : (loadVar t ⟨B b, off, none⟩).run P w = .ok (v.den B) w := by
      simp only [SV.den, Instr.loadAt, Instr.sureAddr, Sem.run_bind, Sem.run_pure, Result.andThen_ok] at h5
      generalize (loadVar t ⟨B b, off, none⟩).run P w = rr at h5
      cases rr with
      | ok y w1 => simp only [Result.andThen_ok] at h5; cases h5; rfl
      | halt y w1 => simp only [Result.andThen_halt] at h5; cases h5
    simp only [List.mapM_cons, Sem.run_bind]
    have : (resSem a.tmps (.cell p t)).run P w = .ok (v.den B) w := by
      unfold resSem
      simp only [hd, SV.den, Sem.run_bind, asAddr, Sem.run_pure, Result.andThen_ok, h6]
    rw [this]
    simp only [Result.andThen_ok, h4, Sem.run_pure, List.map_cons]

theorem den_packR (B : Nat → Nat) (l : List SV) : (packR l).den B = packV (l.map (SV.den B)) := by
  match l with
  | [] => rfl
  | [v] => rfl
  | v :: u :: r => simp [packR, packV, SV.den, denL_map]
theorem wf_packR {n : Nat} {l : List SV} (h : ∀ v ∈ l, v.wf n) : (packR l).wf n := by
  match l, h with
  | [], _ => simp [packR, SV.wf, wfL]
  | [v], h => exact h v (by simp)
  | v :: u :: r, h => simp only [packR, SV.wf]; exact (wfL_iff n _).2 h

/-- A function whose code is walked. -/
structure FnOK (P : Program) (f : FuncId) (fn : Func) (c : Code) (sx : List Nat) (hr : List (Nat × RM)) : Prop where
  get : P.funcs[f]? = some fn
  body : fn.body = some c
  ok : codeOK sx hr fn.ntmps c = true
  name : (fn.name == "runtime.NumGoroutine") = false
theorem FnOK.ent {f : FuncId} {fn : Func} {c : Code} {sx : List Nat} {hr : List (Nat × RM)} (h : FnOK P f fn c sx hr) : Entd P f := entd_mk h.get h.name (by rw [h.body]; rfl)

theorem run_of_vc {X : Cx} {f : FuncId} {fn : Func} {c : Code} (hf : FnOK X.P f fn c X.sx X.hr) (hX : CxOK X) {p n0 : Nat} {args : List SV} {H0 : Heap} {κ : K1} (hN : args.length ≤ fn.ntmps) (hwa : wfL n0 args) (hwH : hwf n0 H0) (hp : p ≤ n0)
    (h : codeVC X p c (argS 0 args) H0 n0 (retK X.τ fn.results.toList κ)) (B : Nat → Nat) (M : Nat → Prop) (w : World) (hH : HR B H0 w) (hown : Own M X.m B H0) (hM : ∀ i, w.heap.size ≤ i → M i) :
    Calls X.P f (denL B args).toArray w fun e w' => ∃ v H' n' B', e = .returned (v.den B') ∧ κ v H' n' ∧ v.wf n' ∧ hwf n' H' ∧ HR B' H' w' ∧ Own M X.m B' H' ∧ Kept M w w' ∧ (∀ k, k < p → B' k = B k) ∧ p ≤ n' := by
  refine calls_of_wp hf.get hf.body ?_
  have hlen : (denL B args).toArray.size = args.length := by simp
  have hg : Gs X fn.ntmps p M (argS 0 args) H0 n0 B { tmps := (denL B args).toArray ++ Array.replicate (fn.ntmps - (denL B args).toArray.size) undef, defers := [] } w := by
    refine ⟨⟨by simp; omega, rfl, fun t v hl hk => ?_⟩, fun t v hl => ?_, hH, hwH, hown, hM, hp⟩
    · rw [argS_lookup] at hl
      simp at hl
      have ht : t < args.length := (List.getElem?_eq_some_iff.1 hl).1
      rw [Array.getElem?_append_left (by simpa using ht)]
      simp [denL_map, hl]
    · rw [argS_lookup] at hl
      simp at hl
      exact (wfL_iff n0 args).1 hwa v (List.mem_of_getElem? hl)
  refine code_sound hX c _ H0 n0 B _ w _ _ hf.ok hg h fun e S' H' n' B' a' w' k g r => ?_
  have fin : resVC X.τ S' H' n' κ fn.results.toList [] → a'.defers = [] ∧ ∃ v, (results fn a'.tmps).run X.P w' = .ok v w' ∧ ∃ u H'' n'' B'', Ending.returned v = .returned (u.den B'') ∧ κ u H'' n'' ∧ u.wf n'' ∧ hwf n'' H'' ∧ HR B'' H'' w' ∧ Own M X.m B'' H'' ∧ Kept M w w' ∧ (∀ k, k < p → B'' k = B k) ∧ p ≤ n'' := by
    intro k
    obtain ⟨l, h1, h2, h3, h4⟩ := res_sound (P := X.P) hX.τ g.sr g.swf g.hr g.hwf _ [] k (by simp)
    have := results_run (fn := fn) h4 (by simpa using h1)
    refine ⟨g.sr.df, _, this, packR l, H', n', B', ?_, by simpa using h2, wf_packR fun v hv => (h3 v hv).1, g.hwf, g.hr, g.own, r.kept, r.ag, g.p⟩
    rw [den_packR]
  cases e with
  | normal => exact fin k
  | ret => exact fin k
  | exit id => exact k.elim

theorem hwf_nil (n : Nat) : hwf n [] := fun k o h => by cases h
theorem own_ge {m n0 : Nat} {B : Nat → Nat} {H : Heap} (hw : hwf n0 H) (hm : n0 ≤ m) : Own M m B H := fun k o hl _ hmk => by have := (hw k o hl).1; omega

/-- A function that only makes garbage: its value. -/
theorem pure_of_vc {X : Cx} {f : FuncId} {fn : Func} {c : Code} (hf : FnOK X.P f fn c X.sx X.hr) (hX : CxOK X) {n0 : Nat} {args : List SV} {H0 : Heap} {r : SV} (hN : args.length ≤ fn.ntmps) (hwa : wfL n0 args) (hwH : hwf n0 H0) (hm : n0 ≤ X.m) (hr : ∀ n, r.wf n)
    (h : codeVC X n0 c (argS 0 args) H0 n0 (retK X.τ fn.results.toList fun v _ _ => v = r)) : PureH X.P f args H0 r := by
  refine ⟨hf.ent, fun n _ _ => hr n, fun B w hH => ?_⟩
  have := run_of_vc hf hX hN hwa hwH (Nat.le_refl _) h B (fun i => w.heap.size ≤ i) w hH (own_ge hwH hm) (fun _ h => h)
  refine this.mono fun e w' h => ?_
  obtain ⟨v, H', n', B', rfl, rfl, _, _, _, _, hk, hag, _⟩ := h
  refine ⟨?_, hk.below fun i hi h => by omega⟩
  rw [SV.den_congr (n := n0) hag v (hr n0)]

/-- The same call in a larger heap, under other names. -/
theorem PureH.sub {f : FuncId} {args : List SV} {H0 H : Heap} {r : SV} (h : PureH P f args H0 r) (ρ : Nat → Nat) (hs : subHs ρ 0 H H0) (hi : injOn ρ (H0.map (·.1))) (hr : ∀ n, r.wf n) : PureH P f (renL ρ args) H r := by
  refine ⟨h.ent, fun n _ _ => hr n, fun B w hH => ?_⟩
  have := h.call (fun k => B (ρ k)) w ⟨fun k o hl hk => ?_, fun k j o o' g1 g2 g3 g4 he => ?_⟩
  · rw [denL_ren]
    refine this.mono fun e w' ⟨h1, h2⟩ => ⟨?_, h2⟩
    rw [h1, SV.den_congr (n := 0) (fun k hk => by omega) r (hr 0)]
  · obtain ⟨e1, _, _⟩ := hs k o hl
    have := hH.at_ _ _ e1 (by rw [SObj.live_ren]; exact hk)
    rw [SObj.sat_ren] at this
    exact this
  · obtain ⟨e1, _, m1⟩ := hs k o g1
    obtain ⟨e2, _, m2⟩ := hs j o' g3
    exact hi k m1 j m2 (hH.inj _ _ _ _ e1 (by rw [SObj.live_ren]; exact g2) e2 (by rw [SObj.live_ren]; exact g4) he)
theorem PureH.weaken {f : FuncId} {args : List SV} {H0 H : Heap} {r : SV} (h : PureH P f args H0 r) (hs : ∀ k o, hget H0 k = some o → hget H k = some o) (hr : ∀ n, r.wf n) : PureH P f args H r := by
  have := h.sub (H := H) (fun k => k) (fun k o hk => ⟨by rw [SObj.ren_id]; exact hs k o hk, fun h => h, mem_keys hk⟩) (fun _ _ _ _ h => h) hr
  rwa [renL_id] at this
theorem HR.nil (B : Nat → Nat) (w : World) : HR B [] w := ⟨fun k o hl => (nomatch hl), fun k j o o' hl => (nomatch hl)⟩
theorem PureH.any {f : FuncId} {args : List SV} {r : SV} (h : PureH P f args [] r) (H : Heap) : PureH P f args H r :=
  ⟨h.ent, fun n hw _ => h.wf n hw (hwf_nil n), fun B w _ => h.call B w (HR.nil B w)⟩
end
end Go.Proofs.Ytnlbljikbonioaa
