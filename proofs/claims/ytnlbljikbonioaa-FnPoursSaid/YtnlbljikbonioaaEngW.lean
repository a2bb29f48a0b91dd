/- The engine: a walk of a region that draws its order. -/
import Derived.Test.YtnlbljikbonioaaEngT
set_option maxRecDepth 100000
set_option linter.unusedSimpArgs false
set_option linter.unusedVariables false
namespace Go.Proofs.Ytnlbljikbonioaa
open Go Go.RowKit

theorem pure_fo {P : Program} {τ : Tys} {nw mw : Bool} {op : Op} {S : Env} {H : Heap} {n : Nat} {κ : K1} {sx : Sx} (hk : kindOf sx op = .f) (h : pureVC P τ nw mw op S H n κ) : pureVC P τ nw mw op S [] n (fun v _ _ => κ v H n) := by
  cases op <;> (first | exact h | (simp only [kindOf] at hk; cases hk; done) | (simp only [kindOf] at hk; split at hk <;> cases hk; done) | skip)
  rename_i c
  obtain ⟨cl, ar, ts⟩ := c
  cases cl <;> (first | (cases hk; done) | skip)
  · simp only [kindOf] at hk; split at hk <;> cases hk
  · rename_i b
    cases b <;> first | (cases hk; done) | exact h
theorem kind_f {sx : Sx} {op : Op} (h : kindOf sx op = .f) : calleeOf op = none ∧ isEff op = false := by
  cases op <;> (first | exact ⟨rfl, rfl⟩ | (simp only [kindOf] at h; cases h; done) | (simp only [kindOf] at h; split at h <;> cases h; done) | skip)
  rename_i c
  obtain ⟨cl, ar, ts⟩ := c
  cases cl <;> (first | (cases h; done) | skip)
  · simp only [kindOf] at h; split at h <;> cases h
  · rename_i b
    cases b <;> first | exact ⟨rfl, rfl⟩ | (cases h; done)
theorem kind_q {sx : Sx} {op : Op} (h : kindOf sx op = .q) : (calleeOf op = none ∧ isEff op = false) ∨ ∃ f, isIn sx.c f = false ∧ calleeOf op = some f := by
  cases op <;> (first | exact .inl ⟨rfl, rfl⟩ | (simp only [kindOf] at h; cases h; done) | (simp only [kindOf] at h; split at h <;> cases h; done) | skip)
  rename_i c
  simp only [kindOf] at h
  unfold calleeOf isEff
  split at h <;> rename_i hc
  · cases h
  · cases h
  · simp [hc]
  · cases h
  · split at h
    · cases h
    · rename_i hs
      simp only [hc]
      exact .inr ⟨_, by simpa using hs, rfl⟩
  · cases h
theorem kind_a {sx : Sx} {op : Op} (h : kindOf sx op = .a) : calleeOf op = none ∧ isEff op = true := by
  cases op <;> (first | exact ⟨rfl, rfl⟩ | (simp only [kindOf] at h; cases h; done) | (simp only [kindOf] at h; split at h <;> cases h; done) | skip)
  rename_i c
  simp only [kindOf] at h
  split at h
  · cases h
  · cases h
  · cases h
  · cases h
  · split at h <;> cases h
  · cases h
theorem kind_ns {c : List Nat} {op : Op} (h : kindOf ⟨c, false⟩ op = .a) : isStore op = false := by
  cases op <;> first | rfl | (simp only [kindOf] at h; cases h)
theorem eff_ext {P : Program} {τ : Tys} {m : Nat} {op : Op} {S : Env} {H : Heap} {n : Nat} {κ : K1} {sx : Sx} (hs : isStore op = false) (T : Heap → Prop) (hT : ∀ o, T ((n, o) :: H)) (hk : kindOf sx op = .a) (h : effVC P τ m op S H n κ) : effVC P τ m op S H n (fun v H' n' => κ v H' n' ∧ T H') := by
  have nw : ∀ v e, newVC v e H n κ → newVC v e H n (fun v H' n' => κ v H' n' ∧ T H') := by
    intro v e h
    unfold newVC at h ⊢
    split at h
    · rename_i o ho; exact ⟨h, hT o⟩
    · exact h.elim
  cases op <;> (first | (cases hs; done) | skip) <;> simp only [kindOf] at hk <;> (first | (cases hk; done) | skip) <;> simp only [effVC] at h ⊢
  case alloc e => exact ⟨h.1, h.2.1, nw _ _ h.2.2⟩
  case box e x => exact nw _ _ h
  case makeSlice t l c =>
    unfold makeSliceVC at h ⊢
    split at h
    · obtain ⟨h1, h3, h4, h5, h6, h7, h8⟩ := h
      refine ⟨h1, h3, h4, h5, h6, h7, ?_⟩
      split at h8
      · exact ⟨h8.1, h8.2, hT _⟩
      · exact ⟨h8.1, h8.2, hT _⟩
    · exact h.elim
  case makeMap t r =>
    refine ⟨h.1, ?_⟩
    have h := h.2
    unfold makeMapVC at h ⊢
    split at h
    · split at h
      · exact ⟨h, hT _⟩
      · exact ⟨h, hT _⟩
      · exact h.elim
    · exact h.elim
  case buildSlice t len parts =>
    unfold buildSliceVC at h ⊢
    split at h
    · obtain ⟨h1, h2, h3, h4, h5⟩ := h
      refine ⟨h1, h2, h3, h4, ?_⟩
      split at h5
      · exact ⟨h5, hT _⟩
      · exact h5.elim
    · exact h.elim
  case call c =>
    split at hk
    · cases hk
    · cases hk
    · cases hk
    · cases hk
    · split at hk <;> cases hk
    · cases hk

section
variable {X : Cx} {B : Nat → Nat} {M : Nat → Prop} {H : Heap} {n : Nat} {κ : K1} {w : World} {S : Env} {N : Nat} {a : Act}

theorem HR.tail {B' : Nat → Nat} {o : SObj} (hw : hwf n H) (hag : ∀ k, k < n → B' k = B k) (h : HR B' ((n, o) :: H) w) : HR B H w := by
  have look : ∀ k o', hget H k = some o' → hget ((n, o) :: H) k = some o' := fun k o' hk => by
    have hkn := (hw k o' hk).1
    unfold hget at hk ⊢
    rw [List.lookup_cons]
    have : (k == n) = false := by simp; omega
    rw [this]; exact hk
  have h' : HR B' H w := ⟨fun k o' hk hl => h.at_ k o' (look k o' hk) hl, fun k j o' o'' hk hl hj hl' he => h.inj k j o' o'' (look k o' hk) hl (look j o'' hj) hl' he⟩
  exact h'.congr hw fun k hk => (hag k hk).symm

theorem op_gives {o : Oper} (hX : CxOK X) (hS : SR B N S a) (hwS : swf n S) (hH : HR B H w) (hwH : hwf n H) (hown : Own M X.m B H) (hM : ∀ i, w.heap.size ≤ i → M i) {q : Bool} (h : opVC X q o.op S H n κ) :
    Oper.gives X.P o a w fun x w' => ∃ v H' n' B', κ v H' n' ∧ Aft B M X.m n w v H' n' B' w' ∧ (v.known = true → x = v.den B') := by
  unfold opVC at h
  generalize hc : calleeOf o.op = cl at h
  cases cl with
  | some f =>
    obtain ⟨c, ho, hcl, hargs⟩ := callee_spec hc
    simp only [opB] at h
    obtain ⟨hk, h⟩ := h
    rw [hargs] at hk h
    have hk' : ∀ x ∈ c.args.toList, (ev S x).known = true := fun x hx => List.all_eq_true.1 hk x hx
    unfold callVC at h
    split at h
    · rename_i fid caps hf
      have hwa : wfL n (c.args.toList.map (ev S) ++ caps) := by
        rw [wfL_iff]
        intro v hv
        rcases List.mem_append.1 hv with hv | hv
        · obtain ⟨x, _, rfl⟩ := List.mem_map.1 hv; exact ev_wf hwS x
        · have := ev_wf hwS f
          rw [hf] at this
          exact (wfL_iff n caps).1 (by simpa [SV.wf] using this) v hv
      have upon : ∀ (R : Ending → World → Prop) (R' : Value → World → Prop), Entd X.P fid → Calls X.P fid (denL B (c.args.toList.map (ev S) ++ caps)).toArray w R → (∀ e w', R e w' → ∃ x, e = .returned x ∧ R' x w') → Oper.gives X.P o a w R' := by
        intro R R' hent hcall hR
        unfold Oper.gives
        rw [run_call hS ho hcl hf hk' hent w]
        exact hcall.mono fun e w' hr => hR e w' hr
      unfold callPG at h
      have gen : GenOK X.P fid (c.args.toList.map (ev S) ++ caps) H n X.m κ → Oper.gives X.P o a w fun x w' => ∃ v H' n' B', κ v H' n' ∧ Aft B M X.m n w v H' n' B' w' ∧ (v.known = true → x = v.den B') := fun g => by
        refine upon _ _ g.ent (g.call B M w hH hwH hwa hown hM) fun e w' h => ?_
        obtain ⟨v, H', n', B', rfl, g1, g2, g3, g4, g5, g6, g7, g8⟩ := h
        exact ⟨_, rfl, v, H', n', B', g1, ⟨g2, g3, g4, g5, g6, g7, g8⟩, fun _ => rfl⟩
      split at h
      · rename_i F hF
        unfold resP at h
        split at h
        · rename_i pv hpv
          have hmem : (fid, F) ∈ X.Γp := lookup_mem hF
          have g := hX.p _ hmem _ H pv.1 pv.2 hpv h.1
          refine upon _ _ g.ent (g.call B w hH) fun e w' h' => ?_
          obtain ⟨rfl, hb⟩ := h'
          exact ⟨_, rfl, pv.2, H, n, B, h.2, ⟨Nat.le_refl _, g.wf n hwa hwH, hwH, fun _ _ => rfl, hH.of_below hb, hown, Kept.of_below hb⟩, fun _ => rfl⟩
        · exact h.elim
      · obtain ⟨_, h⟩ := h
        unfold callG at h
        split at h
        · rename_i G hG
          exact gen (hX.g _ (lookup_mem hG) _ _ _ _ _ h)
        · exact gen h
    · exact h.elim
  | none =>
    cases he : isEff o.op with
    | true =>
      rw [he] at h
      simp only [opB] at h
      obtain ⟨v, H', n', B', x, w', g1, g2, g3, g4, g5, g6, g7, g8, g9, g10⟩ := eff_sound (M := M) hX.τ hS hwS hH hwH hown (hM _ (Nat.le_refl _)) h
      unfold Oper.gives
      rcases g10 with g10 | ⟨g10, rfl⟩ <;> rw [g10] <;> exact ⟨v, H', n', B', g1, ⟨g2, g3, g4, g5, g6, g8, g7⟩, g9⟩
    | false =>
      rw [he] at h
      simp only [opB] at h
      obtain ⟨v, x, g1, g2, g3, g4⟩ := pure_sound (B := B) hX.τ hS hwS hwH h
      unfold Oper.gives
      rw [g4 w hH]
      exact ⟨v, H, n, B, g3, ⟨Nat.le_refl _, g1, hwH, fun _ _ => rfl, hH, hown, Kept.refl _ _⟩, g2⟩

def cls (M : Nat → Prop) (w0 : World) (B : Nat → Nat) (H : Heap) : WC := fun w => HR B H w ∧ Kept M w0 w
theorem cls_cl (M : Nat → Prop) (w0 : World) (B : Nat → Nat) (H : Heap) : Cl (cls M w0 B H) := fun _ _ h hb => ⟨h.1.of_below hb, h.2.trans (Kept.of_below hb)⟩

theorem ops_GG {p : Nat} (hX : CxOK X) (all : Array Oper) {q : Bool} (hq : q = true) {QG : KG} {K : KR} {w0 : World} {B0 : Nat → Nat} (hM0 : ∀ i, w0.heap.size ≤ i → M i) :
    ∀ (rest : List Oper) (S : Env) (H : Heap) (n : Nat) (B : Nat → Nat) (a : Act) (w : World), dstsOK N rest = true → Gs X N p M S H n B a w → Kept M w0 w → (∀ k, k < p → B k = B0 k) → opsVC X q all rest S H n K →
      (∀ S' H' n' B' a' w', K S' H' n' → Gs X N p M S' H' n' B' a' w' → Kept M w0 w' → (∀ k, k < p → B' k = B0 k) → QG a' (cls M w0 B' H')) → walkG X.P ⟨X.sx, false⟩ all QG rest a (cls M w0 B H)
  | [], S, H, n, B, a, w, _, hg, hkw, hag, h, hK => hK S H n B a w h hg hkw hag
  | o :: rest, S, H, n, B, a, w, hd, hg, hkw, hag, h, hK => by
    have hd1 := dstsOK_head hd
    have hd2 := dstsOK_tail hd
    have next : ∀ (S : Env) (v : SV) (x : Value), Gs X N p M S H n B a w → v.wf n → (v.known = true → x = v.den B) → opsVC X q all rest (sput S o.dst v) H n K → walkG X.P ⟨X.sx, false⟩ all QG rest (a.put o.dst x) (cls M w0 B H) := fun S v x hg hv hx h =>
      ops_GG hX all hq hM0 rest _ H n B _ w hd2 (hg.put o.dst hd1 (H' := H) (n' := n) (B' := B) (w' := w) ⟨Nat.le_refl _, hv, hg.hwf, fun _ _ => rfl, hg.hr, hg.own, Kept.refl _ _⟩ hx).1 hkw hag h hK
    have run : ∀ S, Gs X N p M S H n B a w → (opVC X q o.op S H n fun v H' n' => opsVC X q all rest (sput S o.dst v) H' n' K) → stepG ⟨X.sx, false⟩ X.P o a (walkG X.P ⟨X.sx, false⟩ all QG rest) (cls M w0 B H) := by
      intro S hg h
      have eff : ∀ m : Bool, (m = true → kindOf ⟨X.sx, false⟩ o.op = .a) → stepE m X.P o a (walkG X.P ⟨X.sx, false⟩ all QG rest) (cls M w0 B H) := by
        intro m hm
        have h2 : opVC X q o.op S H n fun v H' n' => opsVC X q all rest (sput S o.dst v) H' n' K ∧ (m = true → ∃ ob, H' = (n, ob) :: H) := by
          cases m with
          | false =>
            have e1 : (fun v H' n' => opsVC X q all rest (sput S o.dst v) H' n' K ∧ (false = true → ∃ ob, H' = (n, ob) :: H)) = (fun v H' n' => opsVC X q all rest (sput S o.dst v) H' n' K) := by
              funext v H' n'; simp
            rw [e1]; exact h
          | true =>
            have hk := hm rfl
            obtain ⟨k1, k2⟩ := kind_a hk
            unfold opVC at h ⊢
            rw [k1, k2] at h ⊢
            simp only [opB] at h ⊢
            have := eff_ext (kind_ns hk) (fun H' => ∃ ob, H' = (n, ob) :: H) (fun o => ⟨o, rfl⟩) hk h
            have e1 : (fun v H' n' => opsVC X q all rest (sput S o.dst v) H' n' K ∧ (True → ∃ ob, H' = (n, ob) :: H)) = (fun v H' n' => opsVC X q all rest (sput S o.dst v) H' n' K ∧ ∃ ob, H' = (n, ob) :: H) := by
              funext v H' n'; simp
            rw [e1]; exact this
        refine ⟨{i : SV × Heap × Nat × (Nat → Nat) × Value // (opsVC X q all rest (sput S o.dst i.1) i.2.1 i.2.2.1 K ∧ (m = true → ∃ ob, i.2.1 = (n, ob) :: H)) ∧ n ≤ i.2.2.1 ∧ i.1.wf i.2.2.1 ∧ hwf i.2.2.1 i.2.1 ∧ (∀ k, k < n → i.2.2.2.1 k = B k) ∧
            Own M X.m i.2.2.2.1 i.2.1 ∧ (i.1.known = true → i.2.2.2.2 = i.1.den i.2.2.2.1)}, fun i => i.1.2.2.2.2, fun i => cls M w0 i.1.2.2.2.1 i.1.2.1, fun w' hw' => ?_, fun hm' i w' hw' => ?_, fun i => cls_cl _ _ _ _, fun i hi => ?_⟩
        · have := op_gives hX hg.sr hg.swf hw'.1 hg.hwf hg.own (fun i hi => hM0 i (Nat.le_trans hw'.2.size hi)) h2
          refine Oper.gives_mono this fun x w'' hh => ?_
          obtain ⟨v, H', n', B', g1, g2, g3⟩ := hh
          exact ⟨⟨(v, H', n', B', x), g1, g2.le, g2.wf, g2.hwf, g2.ag, g2.own, g3⟩, rfl, g2.hr, hw'.2.trans g2.kept⟩
        · obtain ⟨⟨v, H', n', B', x⟩, g1, g2, g3, g4, g5, g6, g7⟩ := i
          obtain ⟨ob, hob⟩ := g1.2 hm'
          simp only at hob g5
          subst hob
          exact ⟨HR.tail hg.hwf g5 hw'.1, hw'.2⟩
        · obtain ⟨⟨v, H', n', B', x⟩, g1, g2, g3, g4, g5, g6, g7⟩ := i
          obtain ⟨w1, hw1⟩ := hi
          simp only at g1 g2 g3 g4 g5 g6 g7 hw1 ⊢
          have gs : Gs X N p M (sput S o.dst v) H' n' B' (a.put o.dst x) w1 := ⟨(hg.sr.congr hg.swf g5).put o.dst v x hd1 g7, swf_put (swf_mono g2 hg.swf) o.dst g3, hw1.1, g4, g6, fun i hi => hM0 i (Nat.le_trans hw1.2.size hi), Nat.le_trans hg.p g2⟩
          exact ops_GG hX all hq hM0 rest _ H' n' B' _ w1 hd2 gs hw1.2 (fun k hk => (g5 k (Nat.lt_of_lt_of_le hk hg.p)).trans (hag k hk)) g1.1 hK
      unfold stepG
      split
      · rename_i hk
        obtain ⟨k1, k2⟩ := kind_f hk
        unfold opVC at h
        rw [k1, k2] at h
        simp only [opB] at h
        obtain ⟨v, x, g1, g2, g3, g4⟩ := pure_sound (B := B) (H := []) hX.τ hg.sr hg.swf (fun _ _ hl => (nomatch hl)) (pure_fo hk h)
        exact ⟨x, fun w' => g4 w' ⟨fun k o hl => (nomatch hl), fun k j o o' hl => (nomatch hl)⟩, next S v x hg g1 g2 g3⟩
      · rename_i hk
        rcases kind_q hk with ⟨k1, k2⟩ | ⟨f, hs, hf⟩
        · unfold opVC at h
          rw [k1, k2] at h
          simp only [opB] at h
          obtain ⟨v, x, g1, g2, g3, g4⟩ := pure_sound (B := B) hX.τ hg.sr hg.swf hg.hwf h
          refine ⟨x, fun w' hw' => ?_, next S v x hg g1 g2 g3⟩
          unfold qAt Oper.gives
          rw [g4 w' hw'.1]
          exact ⟨rfl, Bel.refl _ _⟩
        · subst hq
          unfold opVC at h
          obtain ⟨c, ho, hcl, hargs⟩ := callee_spec hf
          rw [hf] at h
          simp only [opB, hs] at h
          obtain ⟨hk1, h⟩ := h
          rw [hargs] at hk1 h
          have hk' : ∀ x ∈ c.args.toList, (ev S x).known = true := fun x hx => List.all_eq_true.1 hk1 x hx
          unfold callVC at h
          split at h
          · rename_i fid caps hfn
            have hwa : wfL n (c.args.toList.map (ev S) ++ caps) := by
              rw [wfL_iff]
              intro v hv
              rcases List.mem_append.1 hv with hv | hv
              · obtain ⟨x, _, rfl⟩ := List.mem_map.1 hv; exact ev_wf hg.swf x
              · have := ev_wf hg.swf f
                rw [hfn] at this
                exact (wfL_iff n caps).1 (by simpa [SV.wf] using this) v hv
            unfold callPG at h
            split at h
            · rename_i F hF
              unfold resP at h
              split at h
              · rename_i pv hpv
                have g := hX.p _ (lookup_mem hF) _ H pv.1 pv.2 hpv h.1
                refine ⟨pv.2.den B, fun w' hw' => ?_, next S pv.2 _ hg (g.wf n hwa hg.hwf) (fun _ => rfl) h.2⟩
                unfold qAt Oper.gives
                rw [run_call hg.sr ho hcl hfn hk' g.ent w']
                exact (g.call B w' hw'.1).mono fun e w'' h' => ⟨_, h'.1, rfl, h'.2⟩
              · exact h.elim
            · exact absurd h.1 (by decide)
          · exact h.elim
      · rename_i hk
        exact eff true fun _ => hk
      · exact eff false fun h => by cases h
    have skip : ∀ S, Gs X N p M S H n B a w → opsVC X q all rest (sput S o.dst .und) H n K → walkG X.P ⟨X.sx, false⟩ all QG rest (a.put o.dst undef) (cls M w0 B H) := fun S hg h => next S .und undef hg trivial (fun _ => rfl) h
    unfold walkG operG
    unfold opsVC at h
    split at h
    · rename_i hgd
      rw [if_pos (by simp [Region.wanted, hgd])]
      exact run S hg h
    · rename_i j want hgd
      split at h
      · rename_i t ht
        split at h
        · rename_i c hc
          have hk := hg.know hc
          have hslot := hg.slot hc rfl
          have hy : yielded all a.tmps j = some c := by simp [yielded, ht, hslot, SV.den]
          by_cases hcw : c = want
          · subst hcw
            rw [if_pos (by simp [Region.wanted, hgd, hy])]
            exact run _ hk (h.1 rfl)
          · have hcn : c = !want := by cases c <;> cases want <;> simp_all
            subst hcn
            rw [if_neg (by simp [Region.wanted, hgd, hy])]
            exact skip _ hk (h.2 rfl)
        · rename_i hc
          have hslot := hg.slot hc rfl
          have hy : yielded all a.tmps j = none := by simp [yielded, ht, hslot, SV.den]; rfl
          rw [if_neg (by simp [Region.wanted, hgd, hy])]
          exact skip _ hg h
        · exact h.elim
      · exact h.elim
theorem ops_G {p : Nat} (hX : CxOK X) (all : Array Oper) {q : Bool} (hq : q = true) {Q : Act → World → Prop} {K : KR} {w0 : World} {B0 : Nat → Nat} (hM0 : ∀ i, w0.heap.size ≤ i → M i)
    (rest : List Oper) (S : Env) (H : Heap) (n : Nat) (B : Nat → Nat) (a : Act) (w : World) (hd : dstsOK N rest = true) (hg : Gs X N p M S H n B a w) (hkw : Kept M w0 w) (hag : ∀ k, k < p → B k = B0 k) (h : opsVC X q all rest S H n K)
      (hK : ∀ S' H' n' B' a' w', K S' H' n' → Gs X N p M S' H' n' B' a' w' → Rel p M B0 w0 B' w' → Q a' w') : walkG X.P ⟨X.sx, false⟩ all (fun a' C' => ∀ w', C' w' → Q a' w') rest a (cls M w0 B H) :=
  ops_GG hX all hq hM0 rest S H n B a w hd hg hkw hag h fun S' H' n' B' a' w' k g _ hag' => fun w'' hw'' => hK S' H' n' B' a' w'' k ⟨g.sr, g.swf, hw''.1, g.hwf, g.own, fun i hi => hM0 i (Nat.le_trans hw''.2.size hi), g.p⟩ ⟨hag', hw''.2⟩

/-- The conditions of a region walked by a tree of orders. -/
def treeVC (X : Cx) (all : Array Oper) : OT → Env → Heap → Nat → KR → Prop
  | .done, S, H, n, K => K S H n
  | .one k t, S, H, n, K => match all[k]? with
    | some o => opsVC X true all [o] S H n fun S' H' n' => treeVC X all t S' H' n' K
    | none => False
  | .alt k t r, S, H, n, K => (match all[k]? with
    | some o => opsVC X true all [o] S H n fun S' H' n' => treeVC X all t S' H' n' K
    | none => False) ∧ treeVC X all r S H n K
  | .stop, _, _, _, _ => True
theorem tree_G {p : Nat} (hX : CxOK X) (all : Array Oper) {Q : Act → World → Prop} {K : KR} {w0 : World} {B0 : Nat → Nat} (hM0 : ∀ i, w0.heap.size ≤ i → M i) (hd : ∀ (k : Nat) (o : Oper), all[k]? = some o → dstsOK N [o] = true)
      (hK : ∀ S' H' n' B' a' w', K S' H' n' → Gs X N p M S' H' n' B' a' w' → Rel p M B0 w0 B' w' → Q a' w') :
    ∀ (T : OT) (S : Env) (H : Heap) (n : Nat) (B : Nat → Nat) (a : Act) (w : World), Gs X N p M S H n B a w → Kept M w0 w → (∀ k, k < p → B k = B0 k) → treeVC X all T S H n K →
      treeG X.P ⟨X.sx, false⟩ all (fun a' C' => ∀ w', C' w' → Q a' w') T a (cls M w0 B H)
  | .done, S, H, n, B, a, w, hg, hkw, hag, h => fun w'' hw'' => hK S H n B a w'' h ⟨hg.sr, hg.swf, hw''.1, hg.hwf, hg.own, fun i hi => hM0 i (Nat.le_trans hw''.2.size hi), hg.p⟩ ⟨hag, hw''.2⟩
  | .one k t, S, H, n, B, a, w, hg, hkw, hag, h => by
    unfold treeVC at h
    unfold treeG opG
    split at h
    · rename_i o ho
      rw [ho]
      exact ops_GG (QG := treeG X.P ⟨X.sx, false⟩ all (fun a' C' => ∀ w', C' w' → Q a' w') t) hX all rfl hM0 [o] S H n B a w (hd k o ho) hg hkw hag h fun S' H' n' B' a' w' k g hkw' hag' => tree_G hX all hM0 hd hK t S' H' n' B' a' w' g hkw' hag' k
    · exact h.elim
  | .alt k t r, S, H, n, B, a, w, hg, hkw, hag, h => by
    unfold treeVC at h
    obtain ⟨h, h2⟩ := h
    refine ⟨?_, tree_G hX all hM0 hd hK r S H n B a w hg hkw hag h2⟩
    unfold opG
    split at h
    · rename_i o ho
      rw [ho]
      exact ops_GG (QG := treeG X.P ⟨X.sx, false⟩ all (fun a' C' => ∀ w', C' w' → Q a' w') t) hX all rfl hM0 [o] S H n B a w (hd k o ho) hg hkw hag h fun S' H' n' B' a' w' k g hkw' hag' => tree_G hX all hM0 hd hK t S' H' n' B' a' w' g hkw' hag' k
    · exact h.elim
  | .stop, _, _, _, _, _, _, _, _, _, _ => trivial
end
end Go.Proofs.Ytnlbljikbonioaa
