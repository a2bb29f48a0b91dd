/- The engine: regions that draw their order and store into blocks that nothing else in them reads. -/
import Derived.Test.YtnlbljikbonioaaEngW
set_option maxRecDepth 100000
set_option linter.unusedSimpArgs false
set_option linter.unusedVariables false
namespace Go.Proofs.Ytnlbljikbonioaa
open Go Go.RowKit

def objSize : SObj → Option (Nat × Nat)
  | .ints L e => some (L.length, e)
  | .bls L e => some (L.length, e)
  | .cells l e => some (l.length, e)
  | .hole n e => some (n, e)
  | _ => none
theorem objSize_sat {B : Nat → Nat} {w : World} {id : Nat} {o : SObj} {k e : Nat} (h : objSize o = some (k, e)) (hs : o.sat B w id) : o.live = true ∧ (SObj.hole k e).sat B w id := by
  cases o <;> simp only [objSize] at h <;> cases h
  case ints L => exact ⟨rfl, _, hs, by simp⟩
  case bls L => exact ⟨rfl, _, hs, by simp⟩
  case cells l => exact ⟨rfl, _, hs, by simp [denL_map]⟩
  case hole => exact ⟨rfl, hs⟩
theorem HR.weak {B : Nat → Nat} {H : Heap} {w : World} {b k e : Nat} {o : SObj} (h : HR B H w) (hb : hget H b = some o) (hl : o.live = true) (ho : objSize o = some (k, e)) : HR B ((b, .hole k e) :: H) w := by
  refine ⟨fun j o1 h1 h2 => ?_, fun j1 j2 o1 o2 h1 h2 h3 h4 he => ?_⟩
  · rw [hget_cons] at h1
    split at h1
    · rename_i hj; subst hj; cases h1; exact (objSize_sat ho (h.at_ j o hb hl)).2
    · exact h.at_ j o1 h1 h2
  · have up : ∀ j o1, hget ((b, .hole k e) :: H) j = some o1 → o1.live = true → ∃ o2, hget H j = some o2 ∧ o2.live = true := fun j o1 h1 h2 => by
      rw [hget_cons] at h1
      split at h1
      · rename_i hj; rw [hj]; exact ⟨o, hb, hl⟩
      · exact ⟨o1, h1, h2⟩
    obtain ⟨p1, q1, r1⟩ := up j1 o1 h1 h2
    obtain ⟨p2, q2, r2⟩ := up j2 o2 h3 h4
    exact h.inj j1 j2 p1 p2 q1 r1 q2 r2 he
/-- What stands in the new heap stands, as far as the old one says, in the old one. -/
def Dn (H : Heap) (n : Nat) (H' : Heap) : Prop := ∀ {B B' : Nat → Nat} (w' : World), (∀ k, k < n → B' k = B k) → HR B' H' w' → HR B H w'

def storeHVC (m : Nat) (d : TyD) (a v : SV) (H : Heap) (n : Nat) (κ : K1) : Prop := match a with
  | .ptr b 0 => m ≤ b ∧ d.k ≠ .other ∧ match hget H b with
    | some (.hole k e) => d.size = k ∧ match blockOf v e with
      | some o' => objSize o' = some (k, e) ∧ κ .und ((b, o') :: H) n
      | none => False
    | _ => False
  | _ => False
def allocHVC (d : TyD) (e : Nat) (H : Heap) (n : Nat) (κ : K1) : Prop := d.k ≠ .other ∧ flat d.z = true ∧ match blockOf d.z e with
  | some o => match objSize o with
    | some (k, _) => κ (.ptr n 0) ((n, .hole k e) :: H) (n + 1)
    | none => False
  | none => False
def opHVC (X : Cx) (op : Op) (S : Env) (H : Heap) (n : Nat) (κ : K1) : Prop := match op with
  | .store t x y => storeHVC X.m (X.τ t) (ev S x) (ev S y) H n κ
  | .alloc e => allocHVC (X.τ e) e H n κ
  | op => opVC X true op S H n κ
/-- The operations of such a region. -/
def opsVH (X : Cx) (all : Array Oper) : List Oper → Env → Heap → Nat → KR → Prop
  | [], S, H, n, K => K S H n
  | o :: rest, S, H, n, K => match o.guard with
    | none => opHVC X o.op S H n fun v H' n' => opsVH X all rest (sput S o.dst v) H' n' K
    | some (j, want) => match (all[j]?).bind (·.dst) with
      | some t => match sget S t with
        | .bool c => (c = want → opHVC X o.op ((t, .bool want) :: S) H n fun v H' n' => opsVH X all rest (sput ((t, .bool want) :: S) o.dst v) H' n' K) ∧
            (c = !want → opsVH X all rest (sput ((t, .bool (!want)) :: S) o.dst .und) H n K)
        | .und => opsVH X all rest (sput S o.dst .und) H n K
        | _ => False
      | none => False
theorem opH_pure {X : Cx} {op : Op} {S : Env} {H : Heap} {n : Nat} {κ : K1} {c : List Nat} (h : kindOf ⟨c, true⟩ op = .f ∨ kindOf ⟨c, true⟩ op = .q) : opHVC X op S H n κ = opVC X true op S H n κ := by
  cases op <;> first | rfl | (rcases h with h | h <;> simp only [kindOf] at h <;> cases h)
theorem blockOf_one {v : SV} {e : Nat} {o : SObj} (h : blockOf v e = some o) (B : Nat → Nat) : ∀ x ∈ (v.den B).cells.toList, x.oneCell' = true := by
  cases v
  case stc l =>
    simp only [blockOf] at h
    split at h
    · rename_i ha
      intro x hx
      simp only [SV.den, Value.cells, denL_map, List.mem_map] at hx
      obtain ⟨y, hy, rfl⟩ := hx
      exact (oneCell_den (List.all_eq_true.1 ha y hy) B).2
    · cases h
  case int => simp only [blockOf] at h; cases h; intro x hx; simp [SV.den, Value.cells] at hx; subst hx; rfl
  case bool => simp only [blockOf] at h; cases h; intro x hx; simp [SV.den, Value.cells] at hx; subst hx; rfl
  case arr L => simp only [blockOf] at h; cases h; intro x hx; exact oneCell_ints L x (by simpa [SV.den, Value.cells] using hx)
  case barr L => simp only [blockOf] at h; cases h; intro x hx; exact oneCell_bls L x (by simpa [SV.den, Value.cells] using hx)
  all_goals (simp only [blockOf] at h; first | (cases h; done) | (cases h; intro x hx; simp [SV.den, Value.cells] at hx; subst hx; rfl))
theorem blockOf_elem {v : SV} {e : Nat} {o : SObj} (h : blockOf v e = some o) : ∃ k, objSize o = some (k, e) := by
  cases v <;> simp only [blockOf] at h <;> first | (cases h; done) | (cases h; exact ⟨_, rfl⟩) | (split at h <;> cases h; exact ⟨_, rfl⟩)

section
variable {X : Cx} {B : Nat → Nat} {M : Nat → Prop} {H : Heap} {n : Nat} {κ : K1} {w : World} {S : Env} {N : Nat} {a : Act}

theorem opH_dn {op : Op} {c : List Nat} (hwH : hwf n H) (hk : kindOf ⟨c, true⟩ op = .a) (h : opHVC X op S H n κ) : opHVC X op S H n (fun v H' n' => κ v H' n' ∧ Dn H n H') := by
  have tail : ∀ o : SObj, Dn H n ((n, o) :: H) := fun o _ _ _ hag hr => HR.tail hwH hag hr
  have old : ∀ op : Op, isStore op = false → kindOf ⟨c, true⟩ op = .a → opVC X true op S H n κ → opVC X true op S H n (fun v H' n' => κ v H' n' ∧ Dn H n H') := by
    intro op hs hk h
    obtain ⟨k1, k2⟩ := kind_a hk
    unfold opVC at h ⊢
    rw [k1, k2] at h ⊢
    simp only [opB] at h ⊢
    exact eff_ext hs (fun H' => Dn H n H') tail hk h
  cases op
  case store t x y =>
    simp only [opHVC, storeHVC] at h ⊢
    split at h
    · rename_i b hx
      obtain ⟨h1, h2, h3⟩ := h
      refine ⟨h1, h2, ?_⟩
      split at h3
      · rename_i k e hg
        obtain ⟨h4, h5⟩ := h3
        refine ⟨h4, ?_⟩
        split at h5
        · rename_i o' hbo
          obtain ⟨h6, h7⟩ := h5
          refine ⟨h6, h7, fun {B B'} w' hag hr => ?_⟩
          have hl := (objSize_sat h6 (hr.at_ b o' (by rw [hget_cons, if_pos rfl]) (blockOf_spec hbo B').1)).2
          have hbn := (hwH b _ hg).1
          refine ⟨fun j o1 g1 g2 => ?_, fun j1 j2 o1 o2 g1 g2 g3 g4 he => ?_⟩
          · have hj := hwH j o1 g1
            by_cases hjb : j = b
            · subst hjb
              rw [hg] at g1
              cases g1
              rw [← hag j hbn]
              exact hl
            · have := hr.at_ j o1 (by rw [hget_cons, if_neg hjb]; exact g1) g2
              rw [hag j hj.1] at this
              exact SObj.sat_congr (fun k hk => (hag k hk).symm) o1 hj.2 this
          · have up : ∀ j o1, hget H j = some o1 → o1.live = true → ∃ o2, hget ((b, o') :: H) j = some o2 ∧ o2.live = true := fun j o1 g1 g2 => by
              rw [hget_cons]
              by_cases hjb : j = b
              · rw [if_pos hjb]; exact ⟨o', rfl, (blockOf_spec hbo B').1⟩
              · rw [if_neg hjb]; exact ⟨o1, g1, g2⟩
            obtain ⟨p1, q1, r1⟩ := up j1 o1 g1 g2
            obtain ⟨p2, q2, r2⟩ := up j2 o2 g3 g4
            refine hr.inj j1 j2 p1 p2 q1 r1 q2 r2 ?_
            rw [hag j1 (hwH j1 o1 g1).1, hag j2 (hwH j2 o2 g3).1]
            exact he
        · exact h5.elim
      · exact h3.elim
    · exact h.elim
  case alloc e =>
    simp only [opHVC, allocHVC] at h ⊢
    refine ⟨h.1, h.2.1, ?_⟩
    have h := h.2.2
    split at h
    · split at h
      · exact ⟨h, tail _⟩
      · exact h.elim
    · exact h.elim
  all_goals exact old _ rfl hk h

theorem opH_gives {o : Oper} (hX : CxOK X) (hS : SR B N S a) (hwS : swf n S) (hH : HR B H w) (hwH : hwf n H) (hown : Own M X.m B H) (hM : ∀ i, w.heap.size ≤ i → M i) (h : opHVC X o.op S H n κ) :
    Oper.gives X.P o a w fun x w' => ∃ v H' n' B', κ v H' n' ∧ Aft B M X.m n w v H' n' B' w' ∧ (v.known = true → x = v.den B') := by
  unfold opHVC at h
  split at h
  · rename_i t x y ho
    unfold storeHVC at h
    split at h
    · rename_i b hx
      obtain ⟨h1, h2, h3⟩ := h
      split at h3
      · rename_i k e hg
        obtain ⟨h4, h5⟩ := h3
        split at h5
        · rename_i o' hbo
          obtain ⟨h6, h7⟩ := h5
          obtain ⟨s1, s2, s3, s4⟩ := blockOf_spec hbo B
          obtain ⟨c, hc, hcs⟩ := hH.at_ b _ hg rfl
          have hsz : (SV.den B (ev S y)).cells.size = k := by
            have hd : (w.setRow (B b) (SV.den B (ev S y)).cells).heap[B b]? = some (o'.den B) := by rw [s2]; exact setRow_heap w _ _ _ _ _ hc
            obtain ⟨c', g1, g2⟩ := (objSize_sat h6 (SObj.sat_of_den (blockOf_full hbo) hd)).2
            rw [hd, s2] at g1
            cases g1
            exact g2
          have hst := run_storeAt (P := X.P) (off := 0) (x := SV.den B (ev S y)) hX.τ h2 hc (by rw [hsz, h4]) (by omega) (blockOf_one hbo B)
          have hrow : (c.toList.take 0 ++ (SV.den B (ev S y)).cells.toList ++ c.toList.drop (0 + (SV.den B (ev S y)).cells.size)).toArray = (SV.den B (ev S y)).cells := by
            rw [List.drop_of_length_le (by simp; omega)]; simp
          rw [hrow] at hst
          unfold Oper.gives execOp
          have e1 := ev_den hS x (by rw [hx]; rfl)
          have e2 := ev_den hS y s3
          rw [hx] at e1
          simp only [ho, e1, e2, SV.den] at hst ⊢
          simp only [Sem.run_bind, hst, Result.andThen_ok, Sem.run_pure]
          exact ⟨.und, _, n, B, h7, ⟨Nat.le_refl _, trivial, hwf_cons hwH (hwH b _ hg).1 (s4 n (ev_wf hwS y)), fun _ _ => rfl, hH.set hg rfl c hc s2 (blockOf_full hbo), hown.set hg rfl, Kept.setRow w _ _ (hown b _ hg rfl h1)⟩, fun _ => rfl⟩
        · exact h5.elim
      · exact h3.elim
    · exact h.elim
  · rename_i e ho
    unfold allocHVC at h
    obtain ⟨hk, hf, h⟩ := h
    split at h
    · rename_i o1 hbo
      split at h
      · rename_i k e1 hos
        have he1 : e1 = e := by obtain ⟨k', hk'⟩ := blockOf_elem hbo; rw [hos] at hk'; cases hk'; rfl
        subst he1
        have hold : opVC X true o.op S H n (fun v H' n' => v = .ptr n 0 ∧ n' = n + 1 ∧ H' = (n, o1) :: H) := by
          rw [ho]
          refine ⟨hk, hf, ?_⟩
          unfold newVC
          rw [hbo]
          exact ⟨rfl, rfl, rfl⟩
        refine Oper.gives_mono (op_gives hX hS hwS hH hwH hown hM hold) fun x w' hh => ?_
        obtain ⟨v, H', n', B', ⟨rfl, rfl, rfl⟩, ⟨g1, g2, g3, g4, g5, g6, g7⟩, g8⟩ := hh
        have hl : o1.live = true := (blockOf_spec hbo B').1
        have hg : hget ((n, o1) :: H) n = some o1 := by rw [hget_cons, if_pos rfl]
        have hr := g5.weak hg hl hos
        refine ⟨.ptr n 0, (n, .hole k e1) :: H, n + 1, B', h, ⟨g1, g2, hwf_cons (hwf_mono (by omega) hwH) (by omega) trivial, g4, ?_, ?_, g7⟩, g8⟩
        · refine ⟨fun j o2 q1 q2 => ?_, fun j1 j2 o2 o3 q1 q2 q3 q4 he => ?_⟩
          · refine hr.at_ j o2 ?_ q2
            rw [hget_cons] at q1 ⊢
            split at q1
            · rename_i hj; rw [if_pos hj]; exact q1
            · rename_i hj; rw [if_neg hj, hget_cons, if_neg hj]; exact q1
          · have up : ∀ j o2, hget ((n, SObj.hole k e1) :: H) j = some o2 → hget ((n, SObj.hole k e1) :: (n, o1) :: H) j = some o2 := fun j o2 q1 => by
              rw [hget_cons] at q1 ⊢
              split at q1
              · rename_i hj; rw [if_pos hj]; exact q1
              · rename_i hj; rw [if_neg hj, hget_cons, if_neg hj]; exact q1
            exact hr.inj j1 j2 o2 o3 (up j1 o2 q1) q2 (up j2 o3 q3) q4 he
        · intro j o2 q1 q2 q3
          rw [hget_cons] at q1
          split at q1
          · rename_i hj; subst hj; exact g6 j o1 hg hl q3
          · rename_i hj; exact g6 j o2 (by rw [hget_cons, if_neg hj]; exact q1) q2 q3
      · exact h.elim
    · exact h.elim
  · exact op_gives hX hS hwS hH hwH hown hM h

theorem ops_H {p : Nat} (hX : CxOK X) (all : Array Oper) {Q : Act → World → Prop} {K : KR} {w0 : World} {B0 : Nat → Nat} (hM0 : ∀ i, w0.heap.size ≤ i → M i) :
    ∀ (rest : List Oper) (S : Env) (H : Heap) (n : Nat) (B : Nat → Nat) (a : Act) (w : World), dstsOK N rest = true → Gs X N p M S H n B a w → Kept M w0 w → (∀ k, k < p → B k = B0 k) → opsVH X all rest S H n K →
      (∀ S' H' n' B' a' w', K S' H' n' → Gs X N p M S' H' n' B' a' w' → Rel p M B0 w0 B' w' → Q a' w') → walkG X.P ⟨X.sx, true⟩ all (fun a' C' => ∀ w', C' w' → Q a' w') rest a (cls M w0 B H)
  | [], S, H, n, B, a, w, _, hg, _, hag, h, hK => fun w' hw' => hK S H n B a w' h ⟨hg.sr, hg.swf, hw'.1, hg.hwf, hg.own, fun i hi => hM0 i (Nat.le_trans hw'.2.size hi), hg.p⟩ ⟨hag, hw'.2⟩
  | o :: rest, S, H, n, B, a, w, hd, hg, hkw, hag, h, hK => by
    have hd1 := dstsOK_head hd
    have hd2 := dstsOK_tail hd
    have next : ∀ (S : Env) (v : SV) (x : Value), Gs X N p M S H n B a w → v.wf n → (v.known = true → x = v.den B) → opsVH X all rest (sput S o.dst v) H n K → walkG X.P ⟨X.sx, true⟩ all (fun a' C' => ∀ w', C' w' → Q a' w') rest (a.put o.dst x) (cls M w0 B H) := fun S v x hg hv hx h =>
      ops_H hX all hM0 rest _ H n B _ w hd2 (hg.put o.dst hd1 (H' := H) (n' := n) (B' := B) (w' := w) ⟨Nat.le_refl _, hv, hg.hwf, fun _ _ => rfl, hg.hr, hg.own, Kept.refl _ _⟩ hx).1 hkw hag h hK
    have run : ∀ S, Gs X N p M S H n B a w → (opHVC X o.op S H n fun v H' n' => opsVH X all rest (sput S o.dst v) H' n' K) → stepG ⟨X.sx, true⟩ X.P o a (walkG X.P ⟨X.sx, true⟩ all (fun a' C' => ∀ w', C' w' → Q a' w') rest) (cls M w0 B H) := by
      intro S hg h
      have eff : ∀ m : Bool, (m = true → kindOf ⟨X.sx, true⟩ o.op = .a) → stepE m X.P o a (walkG X.P ⟨X.sx, true⟩ all (fun a' C' => ∀ w', C' w' → Q a' w') rest) (cls M w0 B H) := by
        intro m hm
        have h2 : opHVC X o.op S H n fun v H' n' => opsVH X all rest (sput S o.dst v) H' n' K ∧ (m = true → Dn H n H') := by
          cases m with
          | false =>
            have e1 : (fun v H' n' => opsVH X all rest (sput S o.dst v) H' n' K ∧ (false = true → Dn H n H')) = (fun v H' n' => opsVH X all rest (sput S o.dst v) H' n' K) := by
              funext v H' n'; simp
            rw [e1]; exact h
          | true =>
            have := opH_dn hg.hwf (hm rfl) h
            have e1 : (fun v H' n' => opsVH X all rest (sput S o.dst v) H' n' K ∧ (True → Dn H n H')) = (fun v H' n' => opsVH X all rest (sput S o.dst v) H' n' K ∧ Dn H n H') := by
              funext v H' n'; simp
            rw [show (fun v H' n' => opsVH X all rest (sput S o.dst v) H' n' K ∧ (true = true → Dn H n H')) = (fun v H' n' => opsVH X all rest (sput S o.dst v) H' n' K ∧ Dn H n H') by funext v H' n'; simp]
            exact this
        refine ⟨{i : SV × Heap × Nat × (Nat → Nat) × Value // (opsVH X all rest (sput S o.dst i.1) i.2.1 i.2.2.1 K ∧ (m = true → Dn H n i.2.1)) ∧ n ≤ i.2.2.1 ∧ i.1.wf i.2.2.1 ∧ hwf i.2.2.1 i.2.1 ∧ (∀ k, k < n → i.2.2.2.1 k = B k) ∧
            Own M X.m i.2.2.2.1 i.2.1 ∧ (i.1.known = true → i.2.2.2.2 = i.1.den i.2.2.2.1)}, fun i => i.1.2.2.2.2, fun i => cls M w0 i.1.2.2.2.1 i.1.2.1, fun w' hw' => ?_, fun hm' i w' hw' => ?_, fun i => cls_cl _ _ _ _, fun i hi => ?_⟩
        · have := opH_gives hX hg.sr hg.swf hw'.1 hg.hwf hg.own (fun i hi => hM0 i (Nat.le_trans hw'.2.size hi)) h2
          refine Oper.gives_mono this fun x w'' hh => ?_
          obtain ⟨v, H', n', B', g1, g2, g3⟩ := hh
          exact ⟨⟨(v, H', n', B', x), g1, g2.le, g2.wf, g2.hwf, g2.ag, g2.own, g3⟩, rfl, g2.hr, hw'.2.trans g2.kept⟩
        · obtain ⟨⟨v, H', n', B', x⟩, g1, g2, g3, g4, g5, g6, g7⟩ := i
          exact ⟨g1.2 hm' _ g5 hw'.1, hw'.2⟩
        · obtain ⟨⟨v, H', n', B', x⟩, g1, g2, g3, g4, g5, g6, g7⟩ := i
          obtain ⟨w1, hw1⟩ := hi
          simp only at g1 g2 g3 g4 g5 g6 g7 hw1 ⊢
          have gs : Gs X N p M (sput S o.dst v) H' n' B' (a.put o.dst x) w1 := ⟨(hg.sr.congr hg.swf g5).put o.dst v x hd1 g7, swf_put (swf_mono g2 hg.swf) o.dst g3, hw1.1, g4, g6, fun i hi => hM0 i (Nat.le_trans hw1.2.size hi), Nat.le_trans hg.p g2⟩
          exact ops_H hX all hM0 rest _ H' n' B' _ w1 hd2 gs hw1.2 (fun k hk => (g5 k (Nat.lt_of_lt_of_le hk hg.p)).trans (hag k hk)) g1.1 hK
      unfold stepG
      split
      · rename_i hk
        obtain ⟨k1, k2⟩ := kind_f hk
        rw [opH_pure (.inl hk)] at h
        unfold opVC at h
        rw [k1, k2] at h
        simp only [opB] at h
        obtain ⟨v, x, g1, g2, g3, g4⟩ := pure_sound (B := B) (H := []) hX.τ hg.sr hg.swf (fun _ _ hl => (nomatch hl)) (pure_fo hk h)
        exact ⟨x, fun w' => g4 w' ⟨fun k o hl => (nomatch hl), fun k j o o' hl => (nomatch hl)⟩, next S v x hg g1 g2 g3⟩
      · rename_i hk
        rw [opH_pure (.inr hk)] at h
        rcases kind_q hk with ⟨k1, k2⟩ | ⟨f, hs, hf⟩
        · unfold opVC at h
          rw [k1, k2] at h
          simp only [opB] at h
          obtain ⟨v, x, g1, g2, g3, g4⟩ := pure_sound (B := B) hX.τ hg.sr hg.swf hg.hwf h
          refine ⟨x, fun w' hw' => ?_, next S v x hg g1 g2 g3⟩
          unfold qAt Oper.gives
          rw [g4 w' hw'.1]
          exact ⟨rfl, Bel.refl _ _⟩
        · unfold opVC at h
          obtain ⟨c, ho, hcl, hargs⟩ := callee_spec hf
          rw [hf] at h
          simp only [opB, hs] at h
          obtain ⟨hk1, h⟩ := h
          rw [hargs] at hk1 h
          have hk' : ∀ x ∈ c.args.toList, (ev S x).known = true := fun x hx => List.all_eq_true.1 hk1 x hx
          unfold callVC at h
          split at h
          · rename_i fid caps hfn
            have hwa : wfL n (c.args.toList.map (ev S) ++ caps) := by
              rw [wfL_iff]
              intro v hv
              rcases List.mem_append.1 hv with hv | hv
              · obtain ⟨x, _, rfl⟩ := List.mem_map.1 hv; exact ev_wf hg.swf x
              · have := ev_wf hg.swf f
                rw [hfn] at this
                exact (wfL_iff n caps).1 (by simpa [SV.wf] using this) v hv
            unfold callPG at h
            split at h
            · rename_i F hF
              unfold resP at h
              split at h
              · rename_i pv hpv
                have g := hX.p _ (lookup_mem hF) _ H pv.1 pv.2 hpv h.1
                refine ⟨pv.2.den B, fun w' hw' => ?_, next S pv.2 _ hg (g.wf n hwa hg.hwf) (fun _ => rfl) h.2⟩
                unfold qAt Oper.gives
                rw [run_call hg.sr ho hcl hfn hk' g.ent w']
                exact (g.call B w' hw'.1).mono fun e w'' h' => ⟨_, h'.1, rfl, h'.2⟩
              · exact h.elim
            · exact absurd h.1 (by decide)
          · exact h.elim
      · rename_i hk
        exact eff true fun _ => hk
      · exact eff false fun h => by cases h
    have skip : ∀ S, Gs X N p M S H n B a w → opsVH X all rest (sput S o.dst .und) H n K → walkG X.P ⟨X.sx, true⟩ all (fun a' C' => ∀ w', C' w' → Q a' w') rest (a.put o.dst undef) (cls M w0 B H) := fun S hg h => next S .und undef hg trivial (fun _ => rfl) h
    unfold walkG operG
    unfold opsVH at h
    split at h
    · rename_i hgd
      rw [if_pos (by simp [Region.wanted, hgd])]
      exact run S hg h
    · rename_i j want hgd
      split at h
      · rename_i t ht
        split at h
        · rename_i c hc
          have hk := hg.know hc
          have hslot := hg.slot hc rfl
          have hy : yielded all a.tmps j = some c := by simp [yielded, ht, hslot, SV.den]
          by_cases hcw : c = want
          · subst hcw
            rw [if_pos (by simp [Region.wanted, hgd, hy])]
            exact run _ hk (h.1 rfl)
          · have hcn : c = !want := by cases c <;> cases want <;> simp_all
            subst hcn
            rw [if_neg (by simp [Region.wanted, hgd, hy])]
            exact skip _ hk (h.2 rfl)
        · rename_i hc
          have hslot := hg.slot hc rfl
          have hy : yielded all a.tmps j = none := by simp [yielded, ht, hslot, SV.den]; rfl
          rw [if_neg (by simp [Region.wanted, hgd, hy])]
          exact skip _ hg h
        · exact h.elim
      · exact h.elim

/-! The start: the blocks that are stored into become holes. -/
def startH (ts : List Nat) (S : Env) (H : Heap) (κ : Heap → Prop) : Prop := match ts with
  | [] => κ H
  | t :: ts => match sget S t with
    | .ptr b 0 => match hget H b with
      | some o => match objSize o with
        | some (k, e) => startH ts S ((b, .hole k e) :: H) κ
        | none => False
      | none => False
    | _ => False
theorem startH_sound : ∀ (ts : List Nat) {H : Heap} {κ : Heap → Prop}, startH ts S H κ → hwf n H → ∃ H', κ H' ∧ hwf n H' ∧ (∀ w : World, HR B H w → HR B H' w) ∧ ∀ m : Nat, Own M m B H → Own M m B H'
  | [], H, κ, h, hw => ⟨H, h, hw, fun _ h => h, fun _ h => h⟩
  | t :: ts, H, κ, h, hw => by
    unfold startH at h
    split at h
    · rename_i b hb
      split at h
      · rename_i o hg
        split at h
        · rename_i k e ho
          have hl : o.live = true := by cases o <;> first | rfl | cases ho
          obtain ⟨H', h1, h2, h3, h4⟩ := startH_sound ts h (hwf_cons hw (hw b o hg).1 trivial)
          exact ⟨H', h1, h2, fun w hr => h3 w (hr.weak hg hl ho), fun m ho' => h4 m (ho'.set hg hl)⟩
        · exact h.elim
      · exact h.elim
    · exact h.elim
end
end Go.Proofs.Ytnlbljikbonioaa
