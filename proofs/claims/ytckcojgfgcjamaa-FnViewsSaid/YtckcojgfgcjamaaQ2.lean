/- Texts of this claim, joined (EngV, EngT, EngW, EngX, EngF). -/
import Derived.Test.YtckcojgfgcjamaaQ1
set_option maxRecDepth 100000
set_option linter.unusedSimpArgs false
set_option linter.unusedVariables false
namespace Go.Proofs.Ytckcojgfgcjamaa
open Go Go.RowKit

section
variable {P : Program} {τ : Tys} {B : Nat → Nat} {M : Nat → Prop} {m : Nat} {H : Heap} {n : Nat} {κ : K1} {w : World}

theorem eff_sound {o : Oper} {S : Env} {N : Nat} {a : Act} (hτ : TysOK P τ) (hS : SR B N S a) (hwS : swf n S) (hH : HR B H w) (hwH : hwf n H) (hown : Own M m B H) (hM : M w.heap.size) (h : effVC P τ m o.op S H n κ) :
    EffRes P B M m n w (execOp a.eval o) κ := by
  unfold execOp
  cases ho : o.op <;> simp only [ho, effVC] at h ⊢ <;> (try exact h.elim)
  case alloc e =>
    obtain ⟨hk, hf, h⟩ := h
    obtain ⟨i, hi, _, _, hz⟩ := ty_info hτ hk
    have hkn : (τ e).z.known = true := knownOf fun e' => by rw [e'] at hf; cases hf
    have hz := hz hkn
    rw [den_flat hf (fun _ => 0) B] at hz
    refine new_sound hH hwH hown hM (wf_flat hf n) h ?_
    have hzv : (zeroValue e).run P w = .ok ((τ e).z.den B) w := by simp [zeroValue, typeInfo, hi, hz]
    simp only [Instr.alloc, newVar, Sem.run_bind, hzv, run_newRow', Result.andThen_ok, Sem.run_pure]
  case box e x =>
    have hk : (ev S x).known = true := knownOf fun e' => by rw [e'] at h; exact h
    refine new_sound hH hwH hown hM (ev_wf hwS x) h ?_
    rw [ev_den hS x hk]
    simp only [Instr.box, newVar, Sem.run_bind, run_newRow', Result.andThen_ok, Sem.run_pure]
  case store t x y =>
    have hk : (ev S x).known = true := knownOf fun e' => by rw [e'] at h; exact h
    have hk2 : (ev S y).known = true := knownOf fun e' => by
      rw [e'] at h
      unfold storeVC at h
      split at h
      · have h := h.2.2
        unfold storeB at h
        split at h
        · exact h
        · exact h
        · cases h.1
        · exact h
      · exact h
    rw [ev_den hS x hk, ev_den hS y hk2]
    exact store_sound hτ hH hwH hown (ev_wf hwS y) h
  case buildSlice t len parts =>
    have hk : ∀ q ∈ (parts.toList.map fun p => (p.1, ev S p.2)), q.2.known = true := by
      unfold buildSliceVC at h
      split at h
      · have h := h.2.2.2.2
        split at h
        · rename_i hL; exact fillI_known _ _ _ hL
        · exact h.elim
      · exact h.elim
    have he : (parts.map fun (x : Nat × Operand) => (x.1, a.eval x.2)) = ((parts.toList.map fun p => (p.1, ev S p.2)).map fun p => (p.1, p.2.den B)).toArray := by
      apply Array.ext'
      simp only [Array.toList_map, List.map_map]
      refine List.map_congr_left fun q hq => ?_
      have := hk (q.1, ev S q.2) (List.mem_map.2 ⟨q, hq, rfl⟩)
      simp [ev_den hS q.2 this]
    have := buildSlice_sound (P := P) (M := M) (m := m) hτ hH hwH hown hM h
    rw [← he] at this
    exact this
  case makeSlice t l c => 
    have hk : (ev S l).known = true ∧ (ev S c).known = true := by
      unfold makeSliceVC at h
      split at h
      · rename_i e1 e2 e3; rw [e2, e3]; exact ⟨rfl, rfl⟩
      · exact h.elim
    rw [ev_den hS l hk.1, ev_den hS c hk.2]
    exact makeSlice_sound hτ hH hwH hown hM h
  case makeMap t r =>
    obtain ⟨hr, h⟩ := h
    refine makeMap_sound (fun x hx => ?_) hτ hH hwH hown hM h
    cases r with
    | none => cases hx
    | some y =>
      simp only [Option.map_some, Option.some.injEq] at hx
      subst hx
      unfold hintVC at hr
      simp only at hr
      split at hr
      · rename_i z hz
        have := ev_den hS y (by rw [hz]; rfl)
        rw [hz] at this
        exact ⟨z, this⟩
      · exact hr.elim
  case mapUpdate t x i v =>
    have hk : (ev S x).known = true ∧ (ev S i).known = true ∧ (ev S v).known = true := by
      unfold mapUpdateVC at h
      split at h
      · rename_i e1 e2 e3
        rw [e2, e3]
        refine ⟨rfl, rfl, ?_⟩
        have h := h.2
        unfold updB at h
        split at h
        · rename_i bv l _
          have h := h.2.2
          refine knownOf fun e' => ?_
          rw [e'] at h
          cases bv <;> exact h
        · exact h.elim
      · exact h.elim
    rw [ev_den hS x hk.1, ev_den hS i hk.2.1, ev_den hS v hk.2.2]
    exact mapUpdate_sound hτ hH hwH hown h
  case insert t x i v =>
    have hk : (ev S x).known = true ∧ (ev S i).known = true ∧ (ev S v).known = true := by
      unfold mapUpdateVC at h
      split at h
      · rename_i e1 e2 e3
        rw [e2, e3]
        refine ⟨rfl, rfl, ?_⟩
        have h := h.2
        unfold updB at h
        split at h
        · rename_i bv l _
          have h := h.2.2
          refine knownOf fun e' => ?_
          rw [e'] at h
          cases bv <;> exact h
        · exact h.elim
      · exact h.elim
    rw [ev_den hS x hk.1, ev_den hS i hk.2.1, ev_den hS v hk.2.2]
    exact mapUpdate_sound hτ hH hwH hown h
  case call c =>
    split at h
    · rename_i hb
      split at h
      · rename_i s x t u hl hts
        obtain ⟨rfl, h⟩ := h
        have hws : s.wf n := by
          have h1 : c.args.toList.map (ev S) = [s, x] := hl
          have : s ∈ c.args.toList.map (ev S) := by rw [h1]; simp
          obtain ⟨y, _, rfl⟩ := List.mem_map.1 this
          exact ev_wf hwS y
        have hkn : s.known = true ∧ x.known = true := by
          unfold appendVC at h
          split at h
          · have h := h.2.2.2
            cases hse : srcE x with
            | true =>
              rw [hse] at h
              refine ⟨?_, knownOf fun e' => by rw [e'] at hse; cases hse⟩
              have h' : keepVC s H n κ := h
              exact knownOf fun e' => by rw [e'] at h'; exact h'
            | false =>
            rw [hse] at h
            simp only at h
            have hsrc : ∀ es κ', srcVC es x H κ' → x.known = true := fun es κ' h' => knownOf fun e' => by rw [e'] at h'; exact h'
            split at h
            · exact ⟨rfl, hsrc _ _ h⟩
            · split at h
              · exact ⟨rfl, hsrc _ _ h.2.2.2.2⟩
              · exact h.elim
            · exact h.elim
          · exact h.elim
        have hk' : ∀ y ∈ c.args.toList, (ev S y).known = true := fun y hy => by
          have : ev S y ∈ [s, x] := by rw [← hl]; exact List.mem_map.2 ⟨y, hy, rfl⟩
          simp at this
          rcases this with h | h <;> rw [h]
          · exact hkn.1
          · exact hkn.2
        have hm : c.args.map a.eval = #[s.den B, x.den B] := by
          have := map_eval (B := B) hS hk'
          rw [hl] at this
          apply Array.ext'
          simpa using this
        have hts' : c.argTypes = #[t, t] := by apply Array.ext'; simpa using hts
        have := append_sound (P := P) (M := M) (m := m) (ty := o.type) hws hτ hH hwH hown hM h
        simp only [resolve, hb, hm]
        obtain ⟨v, H', n', B', xx, w', g1, g2, g3, g4, g5, g6, g7, g8, g9, g10⟩ := this
        refine ⟨v, H', n', B', xx, w', g1, g2, g3, g4, g5, g6, g7, g8, g9, ?_⟩
        rcases g10 with g10 | g10
        · refine .inl ?_
          simp only [Sem.run_bind] at g10
          simp [invoke, builtin, hts']
          exact g10
        · refine .inr ⟨?_, g10.2⟩
          have g10 := g10.1
          simp only [Sem.run_bind] at g10
          simp [invoke, builtin, hts']
          exact g10
      · exact h.elim
    · rename_i hb
      split at h
      · rename_i s t hl hts
        have hkn : s.known = true := knownOf fun e' => by
          rw [e'] at h
          unfold clearVC at h
          split at h
          · exact h.2.2.2
          · exact h
        have hk' : ∀ y ∈ c.args.toList, (ev S y).known = true := fun y hy => by
          have : ev S y ∈ [s] := by rw [← hl]; exact List.mem_map.2 ⟨y, hy, rfl⟩
          simp at this
          rw [this]; exact hkn
        have hm : c.args.map a.eval = #[s.den B] := by
          have := map_eval (B := B) hS hk'
          rw [hl] at this
          apply Array.ext'
          simpa using this
        have hts' : c.argTypes = #[t] := by apply Array.ext'; simpa using hts
        have := clear_sound (P := P) (M := M) (m := m) (ty := o.type) hτ hH hwH hown h
        simp only [resolve, hb, hm]
        obtain ⟨v, H', n', B', xx, w', g1, g2, g3, g4, g5, g6, g7, g8, g9, g10⟩ := this
        refine ⟨v, H', n', B', xx, w', g1, g2, g3, g4, g5, g6, g7, g8, g9, ?_⟩
        rcases g10 with g10 | g10
        · refine .inl ?_
          simp only [Sem.run_bind] at g10
          simp [invoke, builtin, hts']
          exact g10
        · refine .inr ⟨?_, g10.2⟩
          have g10 := g10.1
          simp only [Sem.run_bind] at g10
          simp [invoke, builtin, hts']
          exact g10
      · exact h.elim
    · exact h.elim
end

/-! Calls. -/

/-- A call of this function enters it. -/
def Entd (P : Program) (f : FuncId) : Prop := ∀ (args : Array Value) (w : World), (callFunc f args).run P w = .ok (.enter f args) w
theorem entd_mk {P : Program} {f : FuncId} {fn : Func} (hf : P.funcs[f]? = some fn) (hn : (fn.name == "runtime.NumGoroutine") = false) (hb : fn.body.isNone = false) : Entd P f := by
  intro args w
  simp only [callFunc, Sem.run_bind, run_program, hf, Result.andThen_ok, hn, hb, Bool.false_eq_true, if_false, Sem.run_pure]

/-- A call that reads at most the blocks of H, gives v, and changes nothing that was there. -/
structure PureH (P : Program) (f : FuncId) (args : List SV) (H : Heap) (v : SV) : Prop where
  ent : Entd P f
  wf : ∀ n, wfL n args → hwf n H → v.wf n
  call : ∀ B w, HR B H w → Calls P f (denL B args).toArray w fun e w' => e = .returned (v.den B) ∧ Bel w.heap.size w w'

structure GenOK (P : Program) (f : FuncId) (args : List SV) (H : Heap) (n m : Nat) (κ : K1) : Prop where
  ent : Entd P f
  call : ∀ B (M : Nat → Prop) w, HR B H w → hwf n H → wfL n args → Own M m B H → (∀ i, w.heap.size ≤ i → M i) → Calls P f (denL B args).toArray w fun e w' =>
    ∃ v H' n' B', e = .returned (v.den B') ∧ κ v H' n' ∧ n ≤ n' ∧ v.wf n' ∧ hwf n' H' ∧ (∀ k, k < n → B' k = B k) ∧ HR B' H' w' ∧ Own M m B' H' ∧ Kept M w w'

abbrev PTab := List (Nat × (List SV → Heap → Option (Prop × SV)))
abbrev GTab := List (Nat × (List SV → Heap → Nat → Nat → K1 → Prop))
def PTabOK (P : Program) (T : PTab) : Prop := ∀ q ∈ T, ∀ args H p v, q.2 args H = some (p, v) → p → PureH P q.1 args H v
def GTabOK (P : Program) (T : GTab) : Prop := ∀ q ∈ T, ∀ args H n m κ, q.2 args H n m κ → GenOK P q.1 args H n m κ
theorem PTabOK.nil {P : Program} : PTabOK P [] := fun _ h => by cases h
theorem PTabOK.cons {P : Program} {f : Nat} {F : List SV → Heap → Option (Prop × SV)} {T : PTab} (h : ∀ args H p v, F args H = some (p, v) → p → PureH P f args H v) (hT : PTabOK P T) : PTabOK P ((f, F) :: T) := by
  intro q hq
  cases hq with
  | head => exact h
  | tail _ hq => exact hT q hq
theorem GTabOK.nil {P : Program} : GTabOK P [] := fun _ h => by cases h
theorem GTabOK.cons {P : Program} {f : Nat} {F : List SV → Heap → Nat → Nat → K1 → Prop} {T : GTab} (h : ∀ args H n m κ, F args H n m κ → GenOK P f args H n m κ) (hT : GTabOK P T) : GTabOK P ((f, F) :: T) := by
  intro q hq
  cases hq with
  | head => exact h
  | tail _ hq => exact hT q hq

theorem lookup_mem {α : Type} {T : List (Nat × α)} {f : Nat} {F : α} (h : T.lookup f = some F) : (f, F) ∈ T := by
  induction T with
  | nil => cases h
  | cons q T ih =>
    obtain ⟨g, G⟩ := q
    rw [List.lookup_cons] at h
    by_cases hq : f = g
    · subst hq; simp at h; subst h; exact List.mem_cons_self ..
    · have : (f == g) = false := by simpa using hq
      rw [this] at h
      exact List.mem_cons_of_mem _ (ih h)

/-- Orders of a region: an operation that may come first does; where none may, all that are ready branch. -/
inductive OT where
  | done | one (k : Nat) (t : OT) | alt (k : Nat) (t r : OT) | stop
/-- Regions walked in a way of their own: stores into holes, or by a tree of orders. -/
inductive RM where
  | holes (ts : List Nat) | tree (t : OT)
/-- What a walk goes by: the types, the callees, whether sums must fit, from which name on blocks may be written. -/
structure Cx where
  P : Program
  τ : Tys
  Γp : PTab
  Γ : GTab
  nw : Bool
  mw : Bool
  m : Nat
  sx : List Nat
  hr : List (Nat × RM) := []
structure CxOK (X : Cx) : Prop where
  τ : TysOK X.P X.τ
  p : PTabOK X.P X.Γp
  g : GTabOK X.P X.Γ
  mixed : X.P.follows .mixedOrders = true

def resP (r : Option (Prop × SV)) (H : Heap) (n : Nat) (κ : K1) : Prop := match r with
  | some pv => pv.1 ∧ κ pv.2 H n
  | none => False
def callG (X : Cx) (g : Option (List SV → Heap → Nat → Nat → K1 → Prop)) (f : Nat) (args : List SV) (H : Heap) (n : Nat) (κ : K1) : Prop := match g with
  | some G => G args H n X.m κ
  | none => GenOK X.P f args H n X.m κ
def callPG (X : Cx) (q : Bool) (p : Option (List SV → Heap → Option (Prop × SV))) (f : Nat) (args : List SV) (H : Heap) (n : Nat) (κ : K1) : Prop := match p with
  | some F => resP (F args H) H n κ
  | none => q = false ∧ callG X (X.Γ.lookup f) f args H n κ
def callVC (X : Cx) (q : Bool) (f : SV) (args : List SV) (H : Heap) (n : Nat) (κ : K1) : Prop := match f with
  | .fn fid caps => callPG X q (X.Γp.lookup fid) fid (args ++ caps) H n κ
  | _ => False
def isEff : Op → Bool
  | .alloc _ => true
  | .box _ _ => true
  | .store _ _ _ => true
  | .buildSlice _ _ _ => true
  | .makeSlice _ _ _ => true
  | .makeMap _ _ => true
  | .mapUpdate _ _ _ _ => true
  | .insert _ _ _ _ => true
  | .call c => match c.callee with
    | .builtin .append => true
    | .builtin .clear => true
    | _ => false
  | _ => false
def isStore : Op → Bool
  | .store _ _ _ => true
  | _ => false
def calleeOf : Op → Option Operand
  | .call c => match c.callee with
    | .value f => some f
    | _ => none
  | _ => none
def argsOf : Op → List Operand
  | .call c => c.args.toList
  | _ => []
/-- Is this operand one of these functions? -/
def isIn : List Nat → Operand → Bool
  | [], _ => false
  | k :: l, .func f => if k = f then true else isIn l (.func f)
  | _ :: _, _ => false
def opB (X : Cx) (q : Bool) (c : Option Operand) (e : Bool) (op : Op) (S : Env) (H : Heap) (n : Nat) (κ : K1) : Prop := match c, e with
  | some f, _ => (argsOf op).all (fun x => (ev S x).known) = true ∧ callVC X (q && !isIn X.sx f) (ev S f) ((argsOf op).map (ev S)) H n κ
  | none, true => effVC X.P X.τ X.m op S H n κ
  | none, false => pureVC X.P X.τ X.nw X.mw op S H n κ
def opVC (X : Cx) (q : Bool) (op : Op) (S : Env) (H : Heap) (n : Nat) (κ : K1) : Prop := opB X q (calleeOf op) (isEff op) op S H n κ

abbrev KR := Env → Heap → Nat → Prop
/-- The operations of a region, one behind the other. -/
def opsVC (X : Cx) (q : Bool) (all : Array Oper) : List Oper → Env → Heap → Nat → KR → Prop
  | [], S, H, n, K => K S H n
  | o :: rest, S, H, n, K => match o.guard with
    | none => opVC X q o.op S H n fun v H' n' => opsVC X q all rest (sput S o.dst v) H' n' K
    | some (j, want) => match (all[j]?).bind (·.dst) with
      | some t => match sget S t with
        | .bool c => (c = want → opVC X q o.op ((t, .bool want) :: S) H n fun v H' n' => opsVC X q all rest (sput ((t, .bool want) :: S) o.dst v) H' n' K) ∧
            (c = !want → opsVC X q all rest (sput ((t, .bool (!want)) :: S) o.dst .und) H n K)
        | .und => opsVC X q all rest (sput S o.dst .und) H n K
        | _ => False
      | none => False
def restK (X : Cx) (q : Bool) (all : Array Oper) (rest : List Oper) (S : Env) (d : Option Tmp) (K : KR) : K1 := fun v H n => opsVC X q all rest (sput S d v) H n K


section
variable {X : Cx} {B : Nat → Nat} {M : Nat → Prop} {H : Heap} {n : Nat} {κ : K1} {w : World} {S : Env} {N : Nat} {a : Act}

/-- What is known behind an operation. -/
structure Aft (B : Nat → Nat) (M : Nat → Prop) (m n : Nat) (w : World) (v : SV) (H' : Heap) (n' : Nat) (B' : Nat → Nat) (w' : World) : Prop where
  le : n ≤ n'
  wf : v.wf n'
  hwf : hwf n' H'
  ag : ∀ k, k < n → B' k = B k
  hr : HR B' H' w'
  own : Own M m B' H'
  kept : Kept M w w'

theorem callee_spec {o : Oper} {f : Operand} (h : calleeOf o.op = some f) : ∃ c : Call, o.op = .call c ∧ c.callee = .value f ∧ argsOf o.op = c.args.toList := by
  unfold calleeOf at h
  split at h
  · rename_i c hc
    split at h
    · rename_i g hg
      cases h
      exact ⟨c, hc, hg, by rw [hc]; rfl⟩
    · cases h
  · cases h

theorem run_call {o : Oper} {c : Call} {f : Operand} {fid : Nat} {caps : List SV} (hS : SR B N S a) (ho : o.op = .call c) (hc : c.callee = .value f) (hf : ev S f = .fn fid caps) (hk : ∀ x ∈ c.args.toList, (ev S x).known = true) (he : Entd X.P fid) (w : World) :
    (execOp a.eval o).run X.P w = .ok (.enter fid (denL B (c.args.toList.map (ev S) ++ caps)).toArray) w := by
  have h1 := ev_den hS f (by rw [hf]; rfl)
  rw [hf] at h1
  have h2 : c.args.map a.eval = (denL B (c.args.toList.map (ev S))).toArray := by
    rw [denL_map, ← map_eval hS hk]; apply Array.ext'; simp
  have h3 : (denL B (c.args.toList.map (ev S)) ++ denL B caps) = denL B (c.args.toList.map (ev S) ++ caps) := by simp [denL_map]
  have h4 := he (denL B (c.args.toList.map (ev S) ++ caps)).toArray w
  unfold execOp
  simp only [ho, resolve, hc, h1, SV.den, Deferred.ofValue, Sem.run_bind, Sem.run_pure, Result.andThen_ok, invoke, h2]
  simp only [List.append_toArray, List.nil_append, h3]
  exact h4

theorem upon_returned {P : Program} {o : Oper} {a : Act} {K : Act → World → Prop} {Q : Exit → Act → World → Prop} {f : FuncId} {args : Array Value} {w : World} {R : Ending → World → Prop}
    (hrun : (execOp a.eval o).run P w = .ok (.enter f args) w) (hc : Calls P f args w R) (hR : ∀ e w', R e w' → ∃ x, e = .returned x ∧ K (a.put o.dst x) w') : o.wp P a w K Q := by
  unfold Oper.wp
  rw [hrun]
  simp only [Oper.upon]
  exact hc.mono fun e w' h => by
    obtain ⟨x, rfl, hk⟩ := hR e w' h
    exact hk

theorem op_sound {o : Oper} (hX : CxOK X) (hS : SR B N S a) (hwS : swf n S) (hH : HR B H w) (hwH : hwf n H) (hown : Own M X.m B H) (hM : ∀ i, w.heap.size ≤ i → M i) {q : Bool} (h : opVC X q o.op S H n κ)
    {K : Act → World → Prop} {Q : Exit → Act → World → Prop} (hK : ∀ v H' n' B' w' x, κ v H' n' → Aft B M X.m n w v H' n' B' w' → (v.known = true → x = v.den B') → K (a.put o.dst x) w') : o.wp X.P a w K Q := by
  unfold opVC at h
  generalize hc : calleeOf o.op = cl at h
  cases cl with
  | some f =>
    obtain ⟨c, ho, hcl, hargs⟩ := callee_spec hc
    simp only [opB] at h
    obtain ⟨hk, h⟩ := h
    rw [hargs] at hk h
    have hk' : ∀ x ∈ c.args.toList, (ev S x).known = true := fun x hx => List.all_eq_true.1 hk x hx
    unfold callVC at h
    split at h
    · rename_i fid caps hf
      have hwa : wfL n (c.args.toList.map (ev S) ++ caps) := by
        rw [wfL_iff]
        intro v hv
        rcases List.mem_append.1 hv with hv | hv
        · obtain ⟨x, _, rfl⟩ := List.mem_map.1 hv; exact ev_wf hwS x
        · have := ev_wf hwS f
          rw [hf] at this
          exact (wfL_iff n caps).1 (by simpa [SV.wf] using this) v hv
      unfold callPG at h
      have gen : GenOK X.P fid (c.args.toList.map (ev S) ++ caps) H n X.m κ → o.wp X.P a w K Q := fun g => by
        refine upon_returned (run_call hS ho hcl hf hk' g.ent w) (g.call B M w hH hwH hwa hown hM) fun e w' h => ?_
        obtain ⟨v, H', n', B', rfl, g1, g2, g3, g4, g5, g6, g7, g8⟩ := h
        exact ⟨_, rfl, hK v H' n' B' w' _ g1 ⟨g2, g3, g4, g5, g6, g7, g8⟩ fun _ => rfl⟩
      split at h
      · rename_i F hF
        unfold resP at h
        split at h
        · rename_i pv hpv
          have hmem : (fid, F) ∈ X.Γp := lookup_mem hF
          have g := hX.p _ hmem _ H pv.1 pv.2 hpv h.1
          refine upon_returned (run_call hS ho hcl hf hk' g.ent w) (g.call B w hH) fun e w' h' => ?_
          obtain ⟨rfl, hb⟩ := h'
          exact ⟨_, rfl, hK _ H n B w' _ h.2 ⟨Nat.le_refl _, g.wf n hwa hwH, hwH, fun _ _ => rfl, hH.of_below hb, hown, Kept.of_below hb⟩ fun _ => rfl⟩
        · exact h.elim
      · obtain ⟨_, h⟩ := h
        unfold callG at h
        split at h
        · rename_i G hG
          exact gen (hX.g _ (lookup_mem hG) _ _ _ _ _ h)
        · exact gen h
    · exact h.elim
  | none =>
    cases he : isEff o.op with
    | true =>
      rw [he] at h
      simp only [opB] at h
      obtain ⟨v, H', n', B', x, w', g1, g2, g3, g4, g5, g6, g7, g8, g9, g10⟩ := eff_sound (M := M) hX.τ hS hwS hH hwH hown (hM _ (Nat.le_refl _)) h
      have := hK v H' n' B' w' x g1 ⟨g2, g3, g4, g5, g6, g8, g7⟩ g9
      unfold Oper.wp
      rcases g10 with g10 | ⟨g10, rfl⟩ <;> rw [g10] <;> exact this
    | false =>
      rw [he] at h
      simp only [opB] at h
      obtain ⟨v, x, g1, g2, g3, g4⟩ := pure_sound (B := B) hX.τ hS hwS hwH h
      have := hK v H n B w x g3 ⟨Nat.le_refl _, g1, hwH, fun _ _ => rfl, hH, hown, Kept.refl _ _⟩ g2
      unfold Oper.wp
      rw [g4 w hH]
      exact this

/-- The state of a walk. -/
structure Gs (X : Cx) (N p : Nat) (M : Nat → Prop) (S : Env) (H : Heap) (n : Nat) (B : Nat → Nat) (a : Act) (w : World) : Prop where
  sr : SR B N S a
  swf : swf n S
  hr : HR B H w
  hwf : hwf n H
  own : Own M X.m B H
  new : ∀ i, w.heap.size ≤ i → M i
  p : p ≤ n
structure Rel (p : Nat) (M : Nat → Prop) (B : Nat → Nat) (w : World) (B' : Nat → Nat) (w' : World) : Prop where
  ag : ∀ k, k < p → B' k = B k
  kept : Kept M w w'
theorem Rel.refl (p : Nat) (M : Nat → Prop) (B : Nat → Nat) (w : World) : Rel p M B w B w := ⟨fun _ _ => rfl, Kept.refl _ _⟩
theorem Rel.trans {p : Nat} {M : Nat → Prop} {B B' B'' : Nat → Nat} {w w' w'' : World} (h : Rel p M B w B' w') (k : Rel p M B' w' B'' w'') : Rel p M B w B'' w'' :=
  ⟨fun i hi => (k.ag i hi).trans (h.ag i hi), h.kept.trans k.kept⟩

def dstsOK (N : Nat) (l : List Oper) : Bool := l.all fun o => match o.dst with | some t => Nat.blt t N | none => true
theorem dstsOK_head {N : Nat} {o : Oper} {l : List Oper} (h : dstsOK N (o :: l) = true) : ∀ t, o.dst = some t → t < N := by
  intro t ht
  simp only [dstsOK, List.all_cons, Bool.and_eq_true] at h
  have := h.1
  rw [ht] at this
  simpa using this
theorem dstsOK_mem {N : Nat} {ops : Array Oper} (h : dstsOK N ops.toList = true) {k : Nat} {o : Oper} (ho : ops[k]? = some o) : dstsOK N [o] = true := by
  have hm : o ∈ ops.toList := List.mem_of_getElem? (by simpa using ho)
  have := List.all_eq_true.1 h o hm
  simp only [dstsOK, List.all_cons, List.all_nil, Bool.and_true]
  exact this
theorem dstsOK_tail {N : Nat} {o : Oper} {l : List Oper} (h : dstsOK N (o :: l) = true) : dstsOK N l = true := by
  simp only [dstsOK, List.all_cons, Bool.and_eq_true] at h
  exact h.2

theorem Gs.put {p : Nat} {v : SV} {H' : Heap} {n' : Nat} {B' : Nat → Nat} {w' : World} {x : Value} (h : Gs X N p M S H n B a w) (d : Option Tmp) (hd : ∀ t, d = some t → t < N) (ha : Aft B M X.m n w v H' n' B' w') (hx : v.known = true → x = v.den B') :
    Gs X N p M (sput S d v) H' n' B' (a.put d x) w' ∧ Rel p M B w B' w' :=
  ⟨⟨(h.sr.congr h.swf ha.ag).put d v x hd hx, swf_put (swf_mono ha.le h.swf) d ha.wf, ha.hr, ha.hwf, ha.own, fun i hi => h.new i (Nat.le_trans ha.kept.size hi), Nat.le_trans h.p ha.le⟩,
   ⟨fun k hk => ha.ag k (Nat.lt_of_lt_of_le hk h.p), ha.kept⟩⟩
theorem Gs.skip {p : Nat} (h : Gs X N p M S H n B a w) (d : Option Tmp) (hd : ∀ t, d = some t → t < N) : Gs X N p M (sput S d .und) H n B (a.put d undef) w :=
  ⟨h.sr.put d .und undef hd fun _ => rfl, swf_put h.swf d trivial, h.hr, h.hwf, h.own, h.new, h.p⟩
theorem Gs.know {p t : Nat} {c : Bool} (h : Gs X N p M S H n B a w) (hc : sget S t = .bool c) : Gs X N p M ((t, .bool c) :: S) H n B a w := by
  refine ⟨⟨h.sr.size, h.sr.df, fun t' v hl hk => ?_⟩, fun t' v hl => ?_, h.hr, h.hwf, h.own, h.new, h.p⟩
  · rw [List.lookup_cons] at hl
    by_cases ht : t' = t
    · subst ht
      simp at hl
      subst hl
      unfold sget at hc
      cases hq : S.lookup t' with
      | none => rw [hq] at hc; cases hc
      | some u =>
        rw [hq] at hc
        simp at hc
        subst hc
        exact h.sr.at_ t' _ hq rfl
    · have : (t' == t) = false := by simpa using ht
      rw [this] at hl
      exact h.sr.at_ t' v hl hk
  · rw [List.lookup_cons] at hl
    by_cases ht : t' = t
    · subst ht; simp at hl; subst hl; trivial
    · have : (t' == t) = false := by simpa using ht
      rw [this] at hl
      exact h.swf t' v hl
theorem Gs.slot {p t : Nat} {v : SV} (h : Gs X N p M S H n B a w) (hc : sget S t = v) (hk : v.known = true) : a.tmps[t]? = some (v.den B) := by
  unfold sget at hc
  cases hq : S.lookup t with
  | none => rw [hq] at hc; simp at hc; subst hc; cases hk
  | some u => rw [hq] at hc; simp at hc; subst hc; exact h.sr.at_ t _ hq hk

theorem ops_sound {p : Nat} (hX : CxOK X) (all : Array Oper) {q : Bool} {Q : Exit → Act → World → Prop} {K : KR} :
    ∀ (rest : List Oper) (S : Env) (H : Heap) (n : Nat) (B : Nat → Nat) (a : Act) (w : World), dstsOK N rest = true → Gs X N p M S H n B a w → opsVC X q all rest S H n K →
      (∀ S' H' n' B' a' w', K S' H' n' → Gs X N p M S' H' n' B' a' w' → Rel p M B w B' w' → Q .normal a' w') → wpList X.P all Q rest a w
  | [], S, H, n, B, a, w, _, hg, h, hK => hK S H n B a w h hg (Rel.refl _ _ _ _)
  | o :: rest, S, H, n, B, a, w, hd, hg, h, hK => by
    have hd1 := dstsOK_head hd
    have hd2 := dstsOK_tail hd
    have run : ∀ S, Gs X N p M S H n B a w → (opVC X q o.op S H n fun v H' n' => opsVC X q all rest (sput S o.dst v) H' n' K) → o.wp X.P a w (wpList X.P all Q rest) Q := by
      intro S hg h
      refine op_sound hX hg.sr hg.swf hg.hr hg.hwf hg.own hg.new h fun v H' n' B' w' x hκ ha hx => ?_
      obtain ⟨hg', hr⟩ := hg.put o.dst hd1 ha hx
      exact ops_sound hX all rest _ H' n' B' _ w' hd2 hg' hκ fun S'' H'' n'' B'' a'' w'' k g r => hK S'' H'' n'' B'' a'' w'' k g (hr.trans r)
    have skip : ∀ S, Gs X N p M S H n B a w → opsVC X q all rest (sput S o.dst .und) H n K → wpList X.P all Q rest (a.put o.dst undef) w := by
      intro S hg h
      exact ops_sound hX all rest _ H n B _ w hd2 (hg.skip o.dst hd1) h hK
    unfold wpList
    unfold opsVC at h
    split at h
    · rename_i hgd
      rw [if_pos (by simp [Region.wanted, hgd])]
      exact .inl (run S hg h)
    · rename_i j want hgd
      split at h
      · rename_i t ht
        split at h
        · rename_i c hc
          have hk := hg.know hc
          have hslot := hg.slot hc rfl
          have hy : yielded all a.tmps j = some c := by simp [yielded, ht, hslot, SV.den]
          by_cases hcw : c = want
          · subst hcw
            rw [if_pos (by simp [Region.wanted, hgd, hy])]
            exact .inl (run _ hk (h.1 rfl))
          · have hcn : c = !want := by cases c <;> cases want <;> simp_all
            subst hcn
            rw [if_neg (by simp [Region.wanted, hgd, hy])]
            exact skip _ hk (h.2 rfl)
        · rename_i hc
          have hslot := hg.slot hc rfl
          have hy : yielded all a.tmps j = none := by simp [yielded, ht, hslot, SV.den]; rfl
          rw [if_neg (by simp [Region.wanted, hgd, hy])]
          exact skip _ hg h
        · exact h.elim
      · exact h.elim

end
end Go.Proofs.Ytckcojgfgcjamaa
set_option maxRecDepth 100000
set_option linter.unusedSimpArgs false
set_option linter.unusedVariables false
namespace Go.Proofs.Ytckcojgfgcjamaa
open Go Go.RowKit

section
variable {P : Program}

/-- What an operation gives: a value and a world. -/
def Oper.gives (P : Program) (o : Oper) (a : Act) (w : World) (R : Value → World → Prop) : Prop := match (execOp a.eval o).run P w with
  | .ok (.value v) w' => R v w'
  | .ok .skip w' => R undef w'
  | .ok (.enter f args) w' => Calls P f args w' fun e w'' => ∃ v, e = .returned v ∧ R v w''
  | _ => False
theorem Oper.gives_mono {o : Oper} {a : Act} {w : World} {R R' : Value → World → Prop} (h : Oper.gives P o a w R) (hR : ∀ v w', R v w' → R' v w') : Oper.gives P o a w R' := by
  unfold Oper.gives at h ⊢
  split at h
  · exact hR _ _ h
  · exact hR _ _ h
  · exact h.mono fun e w'' ⟨v, he, hr⟩ => ⟨v, he, hR _ _ hr⟩
  · exact h.elim
theorem Oper.gives_ex {o : Oper} {a : Act} {w : World} {R : Value → World → Prop} (h : Oper.gives P o a w R) : ∃ v w', R v w' := by
  unfold Oper.gives at h
  split at h
  · exact ⟨_, _, h⟩
  · exact ⟨_, _, h⟩
  · obtain ⟨e, w', fr, ⟨v, _, hr⟩, _⟩ := h []
    exact ⟨_, _, hr⟩
  · exact h.elim
theorem Oper.wp_of_gives {o : Oper} {a : Act} {w : World} {R : Value → World → Prop} {K : Act → World → Prop} {Q : Exit → Act → World → Prop} (h : Oper.gives P o a w R) (hR : ∀ v w', R v w' → K (a.put o.dst v) w') : o.wp P a w K Q := by
  unfold Oper.gives at h
  unfold Oper.wp
  split at h
  · rename_i hr; rw [hr]; exact hR _ _ h
  · rename_i hr; rw [hr]; exact hR _ _ h
  · rename_i hr
    rw [hr]
    exact h.mono fun e w'' ⟨v, he, hv⟩ => by subst he; exact hR _ _ hv
  · exact h.elim

inductive Kind | f | q | a | e
deriving DecidableEq

/-- Switches: may calls change things; are stores into holes. -/
structure Sx where
  c : List Nat
  s : Bool
def kindOf (sx : Sx) : Op → Kind
  | .move _ => .f
  | .assign _ => .f
  | .pick _ _ _ => .f
  | .binOp _ _ _ _ _ => .f
  | .unOp _ _ _ => .f
  | .extract _ _ => .f
  | .makeFunc _ _ _ => .f
  | .fieldAddr _ _ _ => .f
  | .nilCheck _ => .f
  | .field _ _ _ => .f
  | .indexAddr _ _ _ => .f
  | .index _ _ _ => .f
  | .slice _ _ _ _ _ => .f
  | .build _ _ => .f
  | .load _ _ => .q
  | .lookup _ _ _ _ => .q
  | .alloc _ => .a
  | .store _ _ _ => if sx.s then .a else .e
  | .box _ _ => .a
  | .buildSlice _ _ _ => .a
  | .makeSlice _ _ _ => .a
  | .makeMap _ _ => .a
  | .call c => match c.callee with
    | .builtin .append => .e
    | .builtin .clear => .e
    | .builtin .len => .q
    | .builtin _ => .f
    | .value o => if isIn sx.c o then .e else .q
    | _ => .e
  | _ => .e

abbrev WC := World → Prop
def Cl (C : WC) : Prop := ∀ w w', C w → Bel w.heap.size w w' → C w'
def qAt (P : Program) (o : Oper) (a : Act) (w : World) (v : Value) : Prop := Oper.gives P o a w fun u w' => u = v ∧ Bel w.heap.size w w'
def fAt (P : Program) (o : Oper) (a : Act) (v : Value) : Prop := ∀ w, (execOp a.eval o).run P w = .ok (.value v) w

abbrev KG := Act → WC → Prop
def stepE (mono : Bool) (P : Program) (o : Oper) (a : Act) (K : KG) (C : WC) : Prop :=
  ∃ (ι : Type) (val : ι → Value) (fam : ι → WC), (∀ w, C w → Oper.gives P o a w fun v w' => ∃ i, v = val i ∧ fam i w') ∧ (mono = true → ∀ i w, fam i w → C w) ∧ (∀ i, Cl (fam i)) ∧ ∀ i, (∃ w, fam i w) → K (a.put o.dst (val i)) (fam i)
def stepG (sx : Sx) (P : Program) (o : Oper) (a : Act) (K : KG) (C : WC) : Prop := match kindOf sx o.op with
  | .f => ∃ v, fAt P o a v ∧ K (a.put o.dst v) C
  | .q => ∃ v, (∀ w, C w → qAt P o a w v) ∧ K (a.put o.dst v) C
  | .a => stepE true P o a K C
  | .e => stepE false P o a K C
def operG (P : Program) (sx : Sx) (ops : Array Oper) (o : Oper) (K : KG) (a : Act) (C : WC) : Prop :=
  if Region.wanted o (yielded ops a.tmps) then stepG sx P o a K C else K (a.put o.dst undef) C
def opG (P : Program) (sx : Sx) (ops : Array Oper) (i : Nat) (K : KG) (a : Act) (C : WC) : Prop := match ops[i]? with
  | none => K a C
  | some o => operG P sx ops o K a C

/-- What one operation comes to, in one of three ways. -/
inductive Way (P : Program) (sx : Sx) (ops : Array Oper) (o : Oper) (K : KG) (a : Act) (C : WC) : Prop
  | off (h : ¬ Region.wanted o (yielded ops a.tmps) = true) (k : K (a.put o.dst undef) C)
  | f (h : Region.wanted o (yielded ops a.tmps) = true) (hk : kindOf sx o.op = .f) (v : Value) (hv : fAt P o a v) (k : K (a.put o.dst v) C)
  | q (h : Region.wanted o (yielded ops a.tmps) = true) (hk : kindOf sx o.op = .q) (v : Value) (hv : ∀ w, C w → qAt P o a w v) (k : K (a.put o.dst v) C)
  | e (h : Region.wanted o (yielded ops a.tmps) = true) (m : Bool) (hk : kindOf sx o.op = if m then .a else .e) (s : stepE m P o a K C)
theorem way_iff {sx : Sx} {ops : Array Oper} {o : Oper} {K : KG} {a : Act} {C : WC} : operG P sx ops o K a C ↔ Way P sx ops o K a C := by
  unfold operG stepG
  constructor
  · intro h
    split at h
    · rename_i hw
      split at h
      · rename_i hk; obtain ⟨v, h1, h2⟩ := h; exact .f hw hk v h1 h2
      · rename_i hk; obtain ⟨v, h1, h2⟩ := h; exact .q hw hk v h1 h2
      · rename_i hk; exact .e hw true (by simpa using hk) h
      · rename_i hk; exact .e hw false (by simpa using hk) h
    · rename_i hw; exact .off hw h
  · intro h
    cases h with
    | off h k => rw [if_neg h]; exact k
    | f h hk v hv k => rw [if_pos h]; simp only [hk]; exact ⟨v, hv, k⟩
    | q h hk v hv k => rw [if_pos h]; simp only [hk]; exact ⟨v, hv, k⟩
    | e h m hk s =>
      rw [if_pos h]
      cases m with
      | true => simp only [if_true] at hk; simp only [hk]; exact s
      | false => simp only [Bool.false_eq_true, if_false] at hk; simp only [hk]; exact s

theorem stepE_mono {m : Bool} {o : Oper} {a : Act} {K K' : KG} {C : WC} (h : ∀ a C, (∃ w, C w) → K a C → K' a C) (hh : stepE m P o a K C) : stepE m P o a K' C := by
  obtain ⟨ι, val, fam, g1, g2, g3, g4⟩ := hh
  exact ⟨ι, val, fam, g1, g2, g3, fun i hi => h _ _ hi (g4 i hi)⟩
theorem operG_mono {sx : Sx} {ops : Array Oper} {o : Oper} {a : Act} {K K' : KG} {C : WC} (hC : ∃ w, C w) (h : ∀ a C, (∃ w, C w) → K a C → K' a C) (hh : operG P sx ops o K a C) : operG P sx ops o K' a C := by
  rw [way_iff] at hh ⊢
  cases hh with
  | off h1 k => exact .off h1 (h _ _ hC k)
  | f h1 hk v hv k => exact .f h1 hk v hv (h _ _ hC k)
  | q h1 hk v hv k => exact .q h1 hk v hv (h _ _ hC k)
  | e h1 m hk s => exact .e h1 m hk (stepE_mono h s)
theorem opG_mono {sx : Sx} {ops : Array Oper} {i : Nat} {a : Act} {K K' : KG} {C : WC} (hC : ∃ w, C w) (h : ∀ a C, (∃ w, C w) → K a C → K' a C) (hh : opG P sx ops i K a C) : opG P sx ops i K' a C := by
  unfold opG at hh ⊢
  split at hh
  · exact h _ _ hC hh
  · exact operG_mono hC h hh

/-- Which two operations may change places. -/
def swapOK (k j : Kind) : Bool := k == .f || j == .f || (k == .q && (j == .q || j == .a))

section swap
variable {sx : Sx} {ops : Array Oper} {ok oj : Oper} {a : Act} {C : WC}
theorem gives_put {o : Oper} {w : World} {R : Value → World → Prop} {d : Option Tmp} {v : Value} (hs : ∀ cs b, o.op ≠ .select cs b) (hd : ∀ t, d = some t → t ∉ o.looksAt ops) : Oper.gives P o (a.put d v) w R = Oper.gives P o a w R := by
  unfold Oper.gives; rw [execOp_put o hs a d v hd]
theorem fAt_put {o : Oper} {u : Value} {d : Option Tmp} {v : Value} (hs : ∀ cs b, o.op ≠ .select cs b) (hd : ∀ t, d = some t → t ∉ o.looksAt ops) : fAt P o (a.put d v) u = fAt P o a u := by
  unfold fAt; rw [execOp_put o hs a d v hd]
theorem qAt_put {o : Oper} {u : Value} {w : World} {d : Option Tmp} {v : Value} (hs : ∀ cs b, o.op ≠ .select cs b) (hd : ∀ t, d = some t → t ∉ o.looksAt ops) : qAt P o (a.put d v) w u = qAt P o a w u := by
  unfold qAt; exact gives_put hs hd

theorem swapG (hC : ∃ w, C w) (hap : ok.apart ops oj = true) (hsk : ∀ cs b, ok.op ≠ .select cs b) (hsj : ∀ cs b, oj.op ≠ .select cs b) (hsw : swapOK (kindOf sx ok.op) (kindOf sx oj.op) = true) {K K' : KG}
    (hK : ∀ v u C', (∃ w, C' w) → K ((a.put ok.dst v).put oj.dst u) C' → K' ((a.put oj.dst u).put ok.dst v) C')
    (h : operG P sx ops ok (fun a' C' => operG P sx ops oj K a' C') a C) : operG P sx ops oj (fun a' C' => operG P sx ops ok K' a' C') a C := by
  obtain ⟨h1, h2, h3⟩ := Oper.apart_spec hap
  have wj : ∀ v, Region.wanted oj (yielded ops (a.put ok.dst v).tmps) = Region.wanted oj (yielded ops a.tmps) := fun v => wanted_put oj a ok.dst v h1
  have wk : ∀ u, Region.wanted ok (yielded ops (a.put oj.dst u).tmps) = Region.wanted ok (yielded ops a.tmps) := fun u => wanted_put ok a oj.dst u h3
  rw [way_iff] at h ⊢
  -- a first step that leaves the class: what stands behind it
  have behind : ∀ (v : Value), (∀ K1 : KG, ∀ u C', (∃ w, C' w) → (∀ w, C' w → C w) → K1 ((a.put oj.dst u).put ok.dst v) C' → operG P sx ops ok K1 (a.put oj.dst u) C') → operG P sx ops oj K (a.put ok.dst v) C →
      (kindOf sx oj.op = .e → ∀ K1 : KG, ∀ u C', (∃ w, C' w) → K1 ((a.put oj.dst u).put ok.dst v) C' → operG P sx ops ok K1 (a.put oj.dst u) C') → Way P sx ops oj (fun a' C' => operG P sx ops ok K' a' C') a C := by
    intro v hk hj hke
    rw [way_iff] at hj
    cases hj with
    | off g k => exact .off (by rw [← wj v]; exact g) (hk _ _ _ hC (fun _ h => h) (hK v undef C hC k))
    | f g gk u gu k => exact .f (by rw [← wj v]; exact g) gk u (by rw [fAt_put hsj h1] at gu; exact gu) (hk _ _ _ hC (fun _ h => h) (hK v u C hC k))
    | q g gk u gu k => exact .q (by rw [← wj v]; exact g) gk u (fun w hw => by have := gu w hw; rw [qAt_put hsj h1] at this; exact this) (hk _ _ _ hC (fun _ h => h) (hK v u C hC k))
    | e g m gk s =>
      obtain ⟨ι, val, fam, g1, g2, g3, g4⟩ := s
      refine .e (by rw [← wj v]; exact g) m gk ⟨ι, val, fam, fun w hw => by have := g1 w hw; rw [gives_put hsj h1] at this; exact this, g2, g3, fun i hi => ?_⟩
      cases m with
      | true => exact hk _ _ _ hi (g2 rfl i) (hK v (val i) (fam i) hi (g4 i hi))
      | false => exact hke (by simpa using gk) _ _ _ hi (hK v (val i) (fam i) hi (g4 i hi))
  cases h with
  | off g k =>
    have hk : ∀ K1 : KG, ∀ u C', (∃ w, C' w) → K1 ((a.put oj.dst u).put ok.dst undef) C' → operG P sx ops ok K1 (a.put oj.dst u) C' := fun K1 u C' _ hK1 => way_iff.2 (.off (by rw [wk u]; exact g) hK1)
    exact behind undef (fun K1 u C' h _ => hk K1 u C' h) k fun _ => hk
  | f g gk v gv k =>
    have hk : ∀ K1 : KG, ∀ u C', (∃ w, C' w) → K1 ((a.put oj.dst u).put ok.dst v) C' → operG P sx ops ok K1 (a.put oj.dst u) C' := fun K1 u C' _ hK1 => way_iff.2 (.f (by rw [wk u]; exact g) gk v (by rw [fAt_put hsk h3]; exact gv) hK1)
    exact behind v (fun K1 u C' h _ => hk K1 u C' h) k fun _ => hk
  | q g gk v gv k =>
    refine behind v (fun K1 u C' _ hsub hK1 => way_iff.2 (.q (by rw [wk u]; exact g) gk v (fun w hw => by rw [qAt_put hsk h3]; exact gv w (hsub w hw)) hK1)) k fun hke => ?_
    rw [gk, hke] at hsw
    cases hsw
  | e g m gk s =>
    obtain ⟨ι, val, fam, g1, g2, g3, g4⟩ := s
    have hjf : kindOf sx oj.op = .f := by
      rw [gk] at hsw
      cases m <;> cases hkj : kindOf sx oj.op <;> rw [hkj] at hsw <;> first | rfl | (cases hsw)
    obtain ⟨w0, hw0⟩ := hC
    obtain ⟨_, w1, i0, _, hi0⟩ := Oper.gives_ex (g1 w0 hw0)
    have k0 : operG P sx ops oj K (a.put ok.dst (val i0)) (fam i0) := g4 i0 ⟨w1, hi0⟩
    rw [way_iff] at k0
    have fin : ∀ u, (∀ i, (∃ w, fam i w) → K ((a.put ok.dst (val i)).put oj.dst u) (fam i)) → operG P sx ops ok K' (a.put oj.dst u) C := fun u hu =>
      way_iff.2 (.e (by rw [wk u]; exact g) m gk ⟨ι, val, fam, fun w hw => by rw [gives_put hsk h3]; exact g1 w hw, g2, g3, fun i hi => hK (val i) u (fam i) hi (hu i hi)⟩)
    cases k0 with
    | off gw _ =>
      refine .off (by rw [← wj (val i0)]; exact gw) (fin undef fun i hi => ?_)
      have : operG P sx ops oj K (a.put ok.dst (val i)) (fam i) := g4 i hi
      unfold operG at this
      rw [if_neg (by rw [wj (val i), ← wj (val i0)]; exact gw)] at this
      exact this
    | f gw _ u gu _ =>
      rw [fAt_put hsj h1] at gu
      refine .f (by rw [← wj (val i0)]; exact gw) hjf u gu (fin u fun i hi => ?_)
      have : operG P sx ops oj K (a.put ok.dst (val i)) (fam i) := g4 i hi
      rw [way_iff] at this
      cases this with
      | off gw' _ => rw [wj (val i), ← wj (val i0)] at gw'; exact (gw' gw).elim
      | f _ _ u' gu' k' =>
        rw [fAt_put hsj h1] at gu'
        have e1 := gu w0
        rw [gu' w0] at e1
        cases e1
        exact k'
      | q _ gk' => rw [hjf] at gk'; cases gk'
      | e _ m' gk' => rw [hjf] at gk'; cases m' <;> cases gk'
    | q _ gk' => rw [hjf] at gk'; cases gk'
    | e _ m' gk' => rw [hjf] at gk'; cases m' <;> cases gk'
end swap

/-! Any order. -/
def wpG (P : Program) (sx : Sx) (ops : Array Oper) (Q : KG) : Nat → Array Bool → Act → WC → Prop
  | 0, listed, a, C => Region.ready .any ops listed = [] ∧ Q a C
  | f + 1, listed, a, C => (Region.ready .any ops listed = [] → Q a C) ∧ ∀ i ∈ Region.ready .any ops listed, opG P sx ops i (wpG P sx ops Q f (listed.setIfInBounds i true)) a C

theorem wpG_sound {sx : Sx} {ops : Array Oper} {Q : KG} {Q' : Exit → Act → World → Prop} (hQ : ∀ a C w, C w → Q a C → Q' .normal a w) : ∀ (f : Nat) (listed : Array Bool) (a : Act) (C : WC) (w : World), Cl C → C w → wpG P sx ops Q f listed a C → wpAny P .any ops Q' f listed a w
  | 0, _, _, _, _, _, hw, h => ⟨h.1, hQ _ _ _ hw h.2⟩
  | f + 1, listed, a, C, w, hcl, hw, h => by
    refine ⟨fun h0 => hQ _ _ _ hw (h.1 h0), fun i hi => ?_⟩
    have hh := h.2 i hi
    have next : ∀ a' C' w', Cl C' → C' w' → wpG P sx ops Q f (listed.setIfInBounds i true) a' C' → wpAny P .any ops Q' f (listed.setIfInBounds i true) a' w' := fun a' C' w' hcl' hw' hg => wpG_sound hQ f _ a' C' w' hcl' hw' hg
    unfold opG at hh
    unfold wpOp
    split at hh
    · rename_i ho; simp only [ho]; exact next _ _ _ hcl hw hh
    · rename_i o ho
      simp only [ho]
      rw [way_iff] at hh
      cases hh with
      | off g k => rw [if_neg g]; exact next _ _ _ hcl hw k
      | f g _ v hv k =>
        rw [if_pos g]
        refine .inl ?_
        unfold Oper.wp
        rw [hv w]
        exact next _ _ _ hcl hw k
      | q g _ v hv k =>
        rw [if_pos g]
        exact .inl (Oper.wp_of_gives (hv w hw) fun u w' hu => by obtain ⟨rfl, hb⟩ := hu; exact next _ _ _ hcl (hcl _ _ hw hb) k)
      | e g m _ s =>
        obtain ⟨ι, val, fam, g1, _, g3, g4⟩ := s
        rw [if_pos g]
        exact .inl (Oper.wp_of_gives (g1 w hw) fun u w' hu => by obtain ⟨i', rfl, hi'⟩ := hu; exact next _ _ _ (g3 i') hi' (g4 i' ⟨_, hi'⟩))

/-! How many operations have not come up. -/
def un (n : Nat) (listed : Array Bool) : Nat := ((List.range n).filter fun j => !listed.getD j true).length
theorem filter_lt {p q : Nat → Bool} : ∀ (l : List Nat), (∀ x ∈ l, p x = true → q x = true) → (∃ x ∈ l, q x = true ∧ p x = false) → (l.filter p).length < (l.filter q).length
  | [], _, h => by obtain ⟨x, hx, _⟩ := h; cases hx
  | x :: r, h1, h2 => by
    have le : ∀ (l : List Nat), (∀ x ∈ l, p x = true → q x = true) → (l.filter p).length ≤ (l.filter q).length := by
      intro l
      induction l with
      | nil => intro _; simp
      | cons y s ih =>
        intro h
        have h3 := ih fun z hz => h z (by simp [hz])
        have h4 := h y (by simp)
        simp only [List.filter_cons]
        cases hp : p y with
        | true => simp [h4 hp]; exact h3
        | false => cases q y <;> simp <;> omega
    have h3 := le r fun z hz => h1 z (by simp [hz])
    simp only [List.filter_cons]
    cases hp : p x with
    | true =>
      have hq := h1 x (by simp) hp
      obtain ⟨y, hy, hqy, hpy⟩ := h2
      rcases List.mem_cons.1 hy with rfl | hy
      · rw [hp] at hpy; cases hpy
      · have := filter_lt r (fun z hz => h1 z (by simp [hz])) ⟨y, hy, hqy, hpy⟩
        simp [hq]; exact this
    | false =>
      cases hq : q x with
      | true => simp; omega
      | false =>
        obtain ⟨y, hy, hqy, hpy⟩ := h2
        rcases List.mem_cons.1 hy with rfl | hy
        · rw [hq] at hqy; cases hqy
        · have := filter_lt r (fun z hz => h1 z (by simp [hz])) ⟨y, hy, hqy, hpy⟩
          simp; exact this
theorem gd_set (L : Array Bool) (i j : Nat) (d : Bool) (hi : i < L.size) : (L.setIfInBounds i true).getD j d = if j = i then true else L.getD j d := by
  by_cases h : j = i
  · subst h; simp [hi]
  · rw [if_neg h]
    simp only [Array.getD_eq_getD_getElem?, Array.getElem?_setIfInBounds]
    rw [if_neg (fun e => h e.symm)]
theorem getD_size {L : Array Bool} {i : Nat} (h : L.getD i true = false) : i < L.size := by
  rcases Nat.lt_or_ge i L.size with h' | h'
  · exact h'
  · simp [Array.getElem?_eq_none h'] at h
theorem un_lt {n i : Nat} {listed : Array Bool} (hi : i < n) (hu : listed.getD i true = false) : un n (listed.setIfInBounds i true) < un n listed := by
  have hs := getD_size hu
  refine filter_lt _ (fun x _ hx => ?_) ⟨i, List.mem_range.2 hi, by simp [hu], by rw [gd_set _ _ _ _ hs, if_pos rfl]; rfl⟩
  rw [gd_set _ _ _ _ hs] at hx
  split at hx
  · cases hx
  · exact hx

theorem gd_two {listed : Array Bool} {x : Nat} (h : listed.getD x true = false) : listed.getD x false = false := by
  have hs := getD_size h
  simp [hs] at h ⊢
  exact h
/-- Does operation j wait for k, through such as have not come up? -/
def depG (ops : Array Oper) (k : Nat) : Nat → Array Bool → Nat → Bool
  | 0, _, _ => false
  | d + 1, listed, j => match ops[j]? with
    | some oj => oj.after.toList.any fun e => Region.binds .any e && (e.on == k || (!listed.getD e.on true && depG ops k d listed e.on))
    | none => false
theorem depG_ready {ops : Array Oper} {k j : Nat} {listed : Array Bool} (hr : j ∈ Region.ready .any ops listed) (hku : listed.getD k true = false) : ∀ d, depG ops k d listed j = false
  | 0 => rfl
  | d + 1 => by
    obtain ⟨hju, oj, hoj, hall⟩ := mem_ready.1 hr
    unfold depG
    rw [hoj]
    simp only
    rw [List.any_eq_false]
    intro e he
    simp only [Bool.and_eq_true, Bool.or_eq_true, beq_iff_eq, Bool.not_eq_true', not_and, not_or]
    intro hb
    have g := hall e (Array.mem_toList_iff.1 he) hb
    refine ⟨fun hk => ?_, fun h => ?_⟩
    · rw [hk, gd_two hku] at g; cases g
    · rw [gd_two h] at g; cases g
theorem depG_mono {ops : Array Oper} {k j : Nat} {listed : Array Bool} (hr : j ∈ Region.ready .any ops listed) (hku : listed.getD k true = false) : ∀ d i, depG ops k d listed i = true → depG ops k d (listed.setIfInBounds j true) i = true
  | 0, _, h => h
  | d + 1, i, h => by
    unfold depG at h ⊢
    split at h
    · rename_i oi hoi
      rw [List.any_eq_true] at h ⊢
      obtain ⟨e, he, h⟩ := h
      refine ⟨e, he, ?_⟩
      simp only [Bool.and_eq_true, Bool.or_eq_true, beq_iff_eq, Bool.not_eq_true'] at h ⊢
      refine ⟨h.1, h.2.imp id fun h2 => ?_⟩
      have hne : e.on ≠ j := fun hj => by
        have := depG_ready hr hku d
        rw [hj, this] at h2
        cases h2.2
      refine ⟨?_, depG_mono hr hku d e.on h2.2⟩
      rw [gd_set _ _ _ _ (getD_size (mem_ready.1 hr).1), if_neg hne]
      exact h2.1
    · cases h

/-- May operation k be taken ahead of all that have not come up? -/
def freeG (sx : Sx) (ops : Array Oper) (listed : Array Bool) (k : Nat) : Bool := match ops[k]? with
  | some ok => (List.range ops.size).all fun j => j == k || listed.getD j true || (match ops[j]? with
    | some oj => depG ops k ops.size listed j || (ok.apart ops oj && swapOK (kindOf sx ok.op) (kindOf sx oj.op))
    | none => true)
  | none => false
theorem freeG_spec {sx : Sx} {ops : Array Oper} {listed : Array Bool} {k : Nat} {ok : Oper} (hk : ops[k]? = some ok) (h : freeG sx ops listed k = true) :
    ∀ j oj, ops[j]? = some oj → j ≠ k → listed.getD j true = false → depG ops k ops.size listed j = false → ok.apart ops oj = true ∧ swapOK (kindOf sx ok.op) (kindOf sx oj.op) = true := by
  intro j oj hj hjk hu hno
  unfold freeG at h
  rw [hk] at h
  have hjs : j < ops.size := (Array.getElem?_eq_some_iff.1 hj).1
  have h1 := List.all_eq_true.1 h j (List.mem_range.2 hjs)
  rw [hj] at h1
  simp only [Bool.or_eq_true, beq_iff_eq, hjk, hu, hno, Bool.false_eq_true, false_or, Bool.and_eq_true] at h1
  exact h1

theorem wpG_first {sx : Sx} {ops : Array Oper} {Q : KG} (hsel : ∀ (j : Nat) (o : Oper) cs b, ops[j]? = some o → o.op ≠ .select cs b) {k : Nat} {ok : Oper} (hk : ops[k]? = some ok) :
    ∀ (f : Nat) (listed : Array Bool) (a : Act) (C : WC), (∃ w, C w) → un ops.size listed ≤ f + 1 →
      (∀ j oj, ops[j]? = some oj → j ≠ k → listed.getD j true = false → depG ops k ops.size listed j = false → ok.apart ops oj = true ∧ swapOK (kindOf sx ok.op) (kindOf sx oj.op) = true) →
      k ∈ Region.ready .any ops listed → opG P sx ops k (wpG P sx ops Q f (listed.setIfInBounds k true)) a C → wpG P sx ops Q (f + 1) listed a C := by
  intro f
  induction f with
  | zero =>
    intro listed a C _ hun _ hr H
    refine ⟨fun h => (by rw [h] at hr; cases hr), fun j hj => ?_⟩
    by_cases hjk : j = k
    · subst hjk; exact H
    · have hku := (mem_ready.1 hr).1
      have hju := (mem_ready.1 hj).1
      obtain ⟨_, oj, hoj, _⟩ := mem_ready.1 hj
      have hjs : j < ops.size := (Array.getElem?_eq_some_iff.1 hoj).1
      have hks : k < ops.size := (Array.getElem?_eq_some_iff.1 hk).1
      have l1 := un_lt hks hku
      have l2 := un_lt (listed := listed.setIfInBounds k true) hjs (by rw [gd_set _ _ _ _ (getD_size hku), if_neg hjk]; exact hju)
      omega
  | succ f ih =>
    intro listed a C hC hun hfree hr H
    refine ⟨fun h => (by rw [h] at hr; cases hr), fun j hj => ?_⟩
    by_cases hjk : j = k
    · subst hjk; exact H
    · obtain ⟨hju, oj, hoj, hall⟩ := mem_ready.1 hj
      have hku := (mem_ready.1 hr).1
      have hjs : j < ops.size := (Array.getElem?_eq_some_iff.1 hoj).1
      have hnot := depG_ready hj hku ops.size
      obtain ⟨hap, hsw⟩ := hfree j oj hoj hjk hju hnot
      have hfree' : ∀ i oi, ops[i]? = some oi → i ≠ k → (listed.setIfInBounds j true).getD i true = false → depG ops k ops.size (listed.setIfInBounds j true) i = false → ok.apart ops oi = true ∧ swapOK (kindOf sx ok.op) (kindOf sx oi.op) = true := fun i oi hi hik hu hno => by
        refine hfree i oi hi hik ?_ (by cases hd : depG ops k ops.size listed i with
          | false => rfl
          | true => rw [depG_mono hj hku _ _ hd] at hno; cases hno)
        rw [gd_set _ _ _ _ (getD_size hju)] at hu
        split at hu
        · cases hu
        · exact hu
      have hun' : un ops.size (listed.setIfInBounds j true) ≤ f + 1 := by
        have := un_lt hjs hju
        omega
      have H1 : operG P sx ops ok (fun a' C' => operG P sx ops oj (wpG P sx ops Q f ((listed.setIfInBounds k true).setIfInBounds j true)) a' C') a C := by
        have H0 : operG P sx ops ok (wpG P sx ops Q (f + 1) (listed.setIfInBounds k true)) a C := by
          unfold opG at H
          rw [hk] at H
          exact H
        refine operG_mono hC (fun a' C' _ hw => ?_) H0
        have := hw.2 j (ready_mono hj hjk)
        unfold opG at this
        rw [hoj] at this
        exact this
      have H2 := swapG (K' := wpG P sx ops Q f ((listed.setIfInBounds j true).setIfInBounds k true)) hC hap (fun cs b => hsel k ok cs b hk) (fun cs b => hsel j oj cs b hoj) hsw (fun v u C' _ hw => by
        rw [Act.put_comm a v u (Oper.apart_spec hap).2.1, Array.setIfInBounds_comm _ _ (Ne.symm hjk)] at hw
        exact hw) H1
      unfold opG
      rw [hoj]
      refine operG_mono hC (fun a' C' hC' hw => ?_) H2
      refine ih (listed.setIfInBounds j true) a' C' hC' hun' hfree' (ready_mono hr (Ne.symm hjk)) ?_
      unfold opG
      rw [hk]
      exact hw

/-- The operations in their lexical order. -/
def walkG (P : Program) (sx : Sx) (ops : Array Oper) (Q : KG) : List Oper → KG
  | [], a, C => Q a C
  | o :: rest, a, C => operG P sx ops o (walkG P sx ops Q rest) a C
def lexG (sx : Sx) (ops : Array Oper) : Nat → Nat → Array Bool → Bool
  | 0, _, listed => (Region.ready .any ops listed).isEmpty
  | f + 1, k, listed => (Region.ready .any ops listed).contains k && freeG sx ops listed k && lexG sx ops f (k + 1) (listed.setIfInBounds k true)
def lexGB (sx : Sx) (ops : Array Oper) : Bool := Region.noSelect ops && lexG sx ops ops.size 0 (Array.replicate ops.size false)
theorem wpG_lex {sx : Sx} {ops : Array Oper} {Q : KG} (hs : Region.noSelect ops = true) : ∀ (l : List Oper) (k : Nat) (listed : Array Bool) (a : Act) (C : WC), (∃ w, C w) → un ops.size listed ≤ l.length → (∀ j, l[j]? = ops[k + j]?) →
    lexG sx ops l.length k listed = true → walkG P sx ops Q l a C → wpG P sx ops Q l.length listed a C
  | [], _, _, _, _, _, _, _, hB, h => ⟨by simpa [lexG] using hB, h⟩
  | o :: l, k, listed, a, C, hC, hun, hl, hB, h => by
    have h0 : ops[k]? = some o := by simpa using (hl 0).symm
    simp only [List.length_cons, lexG, Bool.and_eq_true] at hB
    obtain ⟨⟨hr, hf⟩, hB'⟩ := hB
    have hr' : k ∈ Region.ready .any ops listed := by simpa using hr
    have hks : k < ops.size := (Array.getElem?_eq_some_iff.1 h0).1
    refine wpG_first (Region.noSelect_spec hs) h0 l.length listed a C hC hun (freeG_spec h0 hf) hr' ?_
    unfold opG
    rw [h0]
    refine operG_mono hC (fun a' C' hC' hw => ?_) h
    exact wpG_lex hs l (k + 1) _ a' C' hC' (by have := un_lt hks (mem_ready.1 hr').1; simp only [List.length_cons] at hun; omega) (fun j => by have := hl (j + 1); simpa [Nat.add_assoc, Nat.add_comm 1 j] using this) hB' hw

theorem un_all (n : Nat) (listed : Array Bool) : un n listed ≤ n := by
  have := List.length_filter_le (fun j => !listed.getD j true) (List.range n)
  simpa [un] using this
theorem wp_region_G {sx : Sx} {ops : Array Oper} {id : Nat} {Q : Exit → Act → World → Prop} {a : Act} {w : World} {C : WC} (hm : P.follows .mixedOrders = true) (hB : lexGB sx ops = true) (hcl : Cl C) (hC : C { w with drawn := w.drawn + 1 })
    (h : walkG P sx ops (fun a' C' => ∀ w', C' w' → Q .normal a' w') ops.toList a C) : (Code.region id ops true).wp P Q a w := by
  simp only [lexGB, Bool.and_eq_true] at hB
  refine wp_region_any hm (wpG_sound (sx := sx) (Q := fun a' C' => ∀ w', C' w' → Q .normal a' w') (fun _ _ w' hw' h => h w' hw') _ _ a C _ hcl hC ?_)
  have := wpG_lex (P := P) (sx := sx) (Q := fun a' C' => ∀ w', C' w' → Q .normal a' w') hB.1 ops.toList 0 (Array.replicate ops.size false) a C ⟨_, hC⟩ (by simpa using un_all ops.size _) (by simp) (by simpa using hB.2) h
  simpa using this
/-! Regions walked by a tree of orders: an operation that may be taken first is; where none may, all that are ready branch. -/
def treeOK (sx : Sx) (ops : Array Oper) : OT → Array Bool → List Nat → Bool
  | .done, listed, _ => (Region.ready .any ops listed).isEmpty
  | .one k t, listed, _ => (Region.ready .any ops listed).contains k && freeG sx ops listed k && treeOK sx ops t (listed.setIfInBounds k true) []
  | .alt k t r, listed, acc => treeOK sx ops t (listed.setIfInBounds k true) [] && treeOK sx ops r listed (k :: acc)
  | .stop, listed, acc => !(Region.ready .any ops listed).isEmpty && (Region.ready .any ops listed).all fun i => acc.contains i
def treeG (P : Program) (sx : Sx) (ops : Array Oper) (Q : KG) : OT → KG
  | .done, a, C => Q a C
  | .one k t, a, C => opG P sx ops k (treeG P sx ops Q t) a C
  | .alt k t r, a, C => opG P sx ops k (treeG P sx ops Q t) a C ∧ treeG P sx ops Q r a C
  | .stop, _, _ => True
theorem un_pos {ops : Array Oper} {listed : Array Bool} {k : Nat} (h : k ∈ Region.ready .any ops listed) : 0 < un ops.size listed := by
  obtain ⟨hu, o, ho, _⟩ := mem_ready.1 h
  have hks : k < ops.size := (Array.getElem?_eq_some_iff.1 ho).1
  exact Nat.lt_of_le_of_lt (Nat.zero_le _) (un_lt hks hu)
theorem wpG_tree {sx : Sx} {ops : Array Oper} {Q : KG} (hs : Region.noSelect ops = true) : ∀ (T : OT) (f : Nat) (listed : Array Bool) (acc : List Nat) (a : Act) (C : WC), (∃ w, C w) → un ops.size listed ≤ f → treeOK sx ops T listed acc = true →
    treeG P sx ops Q T a C → (∀ k ∈ acc, ∀ f', f = f' + 1 → k ∈ Region.ready .any ops listed → opG P sx ops k (wpG P sx ops Q f' (listed.setIfInBounds k true)) a C) → wpG P sx ops Q f listed a C
  | .done, f, listed, acc, a, C, _, _, hB, h, _ => by
    have h0 : Region.ready .any ops listed = [] := by simpa [treeOK] using hB
    cases f with
    | zero => exact ⟨h0, h⟩
    | succ f => exact ⟨fun _ => h, fun i hi => by rw [h0] at hi; cases hi⟩
  | .one k t, f, listed, acc, a, C, hC, hun, hB, h, _ => by
    simp only [treeOK, Bool.and_eq_true] at hB
    obtain ⟨⟨hr, hf⟩, hB'⟩ := hB
    have hr' : k ∈ Region.ready .any ops listed := by simpa using hr
    obtain ⟨hu, ok, hk, _⟩ := mem_ready.1 hr'
    have hks : k < ops.size := (Array.getElem?_eq_some_iff.1 hk).1
    have hpos := un_pos hr'
    obtain ⟨f', rfl⟩ : ∃ f', f = f' + 1 := ⟨f - 1, by omega⟩
    refine wpG_first (Region.noSelect_spec hs) hk f' listed a C hC hun (freeG_spec hk hf) hr' ?_
    refine opG_mono hC (fun a' C' hC' hw => ?_) h
    exact wpG_tree hs t f' _ [] a' C' hC' (by have := un_lt hks hu; omega) hB' hw (fun k hk => by cases hk)
  | .alt k t r, f, listed, acc, a, C, hC, hun, hB, h, hacc => by
    simp only [treeOK, Bool.and_eq_true] at hB
    refine wpG_tree hs r f listed (k :: acc) a C hC hun hB.2 h.2 fun j hj f' hf' hjr => ?_
    rcases List.mem_cons.1 hj with rfl | hj
    · obtain ⟨hu, ok, hk, _⟩ := mem_ready.1 hjr
      have hks : j < ops.size := (Array.getElem?_eq_some_iff.1 hk).1
      refine opG_mono hC (fun a' C' hC' hw => ?_) h.1
      exact wpG_tree hs t f' _ [] a' C' hC' (by have := un_lt hks hu; omega) hB.1 hw (fun k hk => by cases hk)
    · exact hacc j hj f' hf' hjr
  | .stop, f, listed, acc, a, C, hC, hun, hB, _, hacc => by
    simp only [treeOK, Bool.and_eq_true] at hB
    obtain ⟨h0, h1⟩ := hB
    have h0' : Region.ready .any ops listed ≠ [] := by intro e; rw [e] at h0; cases h0
    obtain ⟨k, hk⟩ := List.exists_mem_of_ne_nil _ h0'
    have hpos := un_pos hk
    obtain ⟨f', rfl⟩ : ∃ f', f = f' + 1 := ⟨f - 1, by omega⟩
    refine ⟨fun e => absurd e h0', fun i hi => hacc i ?_ f' rfl hi⟩
    have := List.all_eq_true.1 h1 i hi
    simpa using this
def treeB (sx : Sx) (ops : Array Oper) (T : OT) : Bool := Region.noSelect ops && treeOK sx ops T (Array.replicate ops.size false) []
theorem wp_region_T {sx : Sx} {ops : Array Oper} {id : Nat} {Q : Exit → Act → World → Prop} {a : Act} {w : World} {C : WC} {T : OT} (hm : P.follows .mixedOrders = true) (hB : treeB sx ops T = true) (hcl : Cl C) (hC : C { w with drawn := w.drawn + 1 })
    (h : treeG P sx ops (fun a' C' => ∀ w', C' w' → Q .normal a' w') T a C) : (Code.region id ops true).wp P Q a w := by
  simp only [treeB, Bool.and_eq_true] at hB
  refine wp_region_any hm (wpG_sound (sx := sx) (Q := fun a' C' => ∀ w', C' w' → Q .normal a' w') (fun _ _ w' hw' h => h w' hw') _ _ a C _ hcl hC ?_)
  exact wpG_tree (P := P) (sx := sx) hB.1 T _ _ [] a C ⟨_, hC⟩ (by simpa using un_all ops.size _) hB.2 h (fun k hk => by cases hk)
end
end Go.Proofs.Ytckcojgfgcjamaa
set_option maxRecDepth 100000
set_option linter.unusedSimpArgs false
set_option linter.unusedVariables false
namespace Go.Proofs.Ytckcojgfgcjamaa
open Go Go.RowKit

theorem pure_fo {P : Program} {τ : Tys} {nw mw : Bool} {op : Op} {S : Env} {H : Heap} {n : Nat} {κ : K1} {sx : Sx} (hk : kindOf sx op = .f) (h : pureVC P τ nw mw op S H n κ) : pureVC P τ nw mw op S [] n (fun v _ _ => κ v H n) := by
  cases op <;> (first | exact h | (simp only [kindOf] at hk; cases hk; done) | (simp only [kindOf] at hk; split at hk <;> cases hk; done) | skip)
  rename_i c
  obtain ⟨cl, ar, ts⟩ := c
  cases cl <;> (first | (cases hk; done) | skip)
  · simp only [kindOf] at hk; split at hk <;> cases hk
  · rename_i b
    cases b <;> first | (cases hk; done) | exact h
theorem kind_f {sx : Sx} {op : Op} (h : kindOf sx op = .f) : calleeOf op = none ∧ isEff op = false := by
  cases op <;> (first | exact ⟨rfl, rfl⟩ | (simp only [kindOf] at h; cases h; done) | (simp only [kindOf] at h; split at h <;> cases h; done) | skip)
  rename_i c
  obtain ⟨cl, ar, ts⟩ := c
  cases cl <;> (first | (cases h; done) | skip)
  · simp only [kindOf] at h; split at h <;> cases h
  · rename_i b
    cases b <;> first | exact ⟨rfl, rfl⟩ | (cases h; done)
theorem kind_q {sx : Sx} {op : Op} (h : kindOf sx op = .q) : (calleeOf op = none ∧ isEff op = false) ∨ ∃ f, isIn sx.c f = false ∧ calleeOf op = some f := by
  cases op <;> (first | exact .inl ⟨rfl, rfl⟩ | (simp only [kindOf] at h; cases h; done) | (simp only [kindOf] at h; split at h <;> cases h; done) | skip)
  rename_i c
  simp only [kindOf] at h
  unfold calleeOf isEff
  split at h <;> rename_i hc
  · cases h
  · cases h
  · simp [hc]
  · cases h
  · split at h
    · cases h
    · rename_i hs
      simp only [hc]
      exact .inr ⟨_, by simpa using hs, rfl⟩
  · cases h
theorem kind_a {sx : Sx} {op : Op} (h : kindOf sx op = .a) : calleeOf op = none ∧ isEff op = true := by
  cases op <;> (first | exact ⟨rfl, rfl⟩ | (simp only [kindOf] at h; cases h; done) | (simp only [kindOf] at h; split at h <;> cases h; done) | skip)
  rename_i c
  simp only [kindOf] at h
  split at h
  · cases h
  · cases h
  · cases h
  · cases h
  · split at h <;> cases h
  · cases h
theorem kind_ns {c : List Nat} {op : Op} (h : kindOf ⟨c, false⟩ op = .a) : isStore op = false := by
  cases op <;> first | rfl | (simp only [kindOf] at h; cases h)
theorem eff_ext {P : Program} {τ : Tys} {m : Nat} {op : Op} {S : Env} {H : Heap} {n : Nat} {κ : K1} {sx : Sx} (hs : isStore op = false) (T : Heap → Prop) (hT : ∀ o, T ((n, o) :: H)) (hk : kindOf sx op = .a) (h : effVC P τ m op S H n κ) : effVC P τ m op S H n (fun v H' n' => κ v H' n' ∧ T H') := by
  have nw : ∀ v e, newVC v e H n κ → newVC v e H n (fun v H' n' => κ v H' n' ∧ T H') := by
    intro v e h
    unfold newVC at h ⊢
    split at h
    · rename_i o ho; exact ⟨h, hT o⟩
    · exact h.elim
  cases op <;> (first | (cases hs; done) | skip) <;> simp only [kindOf] at hk <;> (first | (cases hk; done) | skip) <;> simp only [effVC] at h ⊢
  case alloc e => exact ⟨h.1, h.2.1, nw _ _ h.2.2⟩
  case box e x => exact nw _ _ h
  case makeSlice t l c =>
    unfold makeSliceVC at h ⊢
    split at h
    · obtain ⟨h1, h3, h4, h5, h6, h7, h8⟩ := h
      refine ⟨h1, h3, h4, h5, h6, h7, ?_⟩
      split at h8
      · exact ⟨h8.1, h8.2, hT _⟩
      · exact ⟨h8.1, h8.2, hT _⟩
    · exact h.elim
  case makeMap t r =>
    refine ⟨h.1, ?_⟩
    have h := h.2
    unfold makeMapVC at h ⊢
    split at h
    · split at h
      · exact ⟨h, hT _⟩
      · exact ⟨h, hT _⟩
      · exact h.elim
    · exact h.elim
  case buildSlice t len parts =>
    unfold buildSliceVC at h ⊢
    split at h
    · obtain ⟨h1, h2, h3, h4, h5⟩ := h
      refine ⟨h1, h2, h3, h4, ?_⟩
      split at h5
      · exact ⟨h5, hT _⟩
      · exact h5.elim
    · exact h.elim
  case call c =>
    split at hk
    · cases hk
    · cases hk
    · cases hk
    · cases hk
    · split at hk <;> cases hk
    · cases hk

section
variable {X : Cx} {B : Nat → Nat} {M : Nat → Prop} {H : Heap} {n : Nat} {κ : K1} {w : World} {S : Env} {N : Nat} {a : Act}

theorem HR.tail {B' : Nat → Nat} {o : SObj} (hw : hwf n H) (hag : ∀ k, k < n → B' k = B k) (h : HR B' ((n, o) :: H) w) : HR B H w := by
  have look : ∀ k o', hget H k = some o' → hget ((n, o) :: H) k = some o' := fun k o' hk => by
    have hkn := (hw k o' hk).1
    unfold hget at hk ⊢
    rw [List.lookup_cons]
    have : (k == n) = false := by simp; omega
    rw [this]; exact hk
  have h' : HR B' H w := ⟨fun k o' hk hl => h.at_ k o' (look k o' hk) hl, fun k j o' o'' hk hl hj hl' he => h.inj k j o' o'' (look k o' hk) hl (look j o'' hj) hl' he⟩
  exact h'.congr hw fun k hk => (hag k hk).symm

theorem op_gives {o : Oper} (hX : CxOK X) (hS : SR B N S a) (hwS : swf n S) (hH : HR B H w) (hwH : hwf n H) (hown : Own M X.m B H) (hM : ∀ i, w.heap.size ≤ i → M i) {q : Bool} (h : opVC X q o.op S H n κ) :
    Oper.gives X.P o a w fun x w' => ∃ v H' n' B', κ v H' n' ∧ Aft B M X.m n w v H' n' B' w' ∧ (v.known = true → x = v.den B') := by
  unfold opVC at h
  generalize hc : calleeOf o.op = cl at h
  cases cl with
  | some f =>
    obtain ⟨c, ho, hcl, hargs⟩ := callee_spec hc
    simp only [opB] at h
    obtain ⟨hk, h⟩ := h
    rw [hargs] at hk h
    have hk' : ∀ x ∈ c.args.toList, (ev S x).known = true := fun x hx => List.all_eq_true.1 hk x hx
    unfold callVC at h
    split at h
    · rename_i fid caps hf
      have hwa : wfL n (c.args.toList.map (ev S) ++ caps) := by
        rw [wfL_iff]
        intro v hv
        rcases List.mem_append.1 hv with hv | hv
        · obtain ⟨x, _, rfl⟩ := List.mem_map.1 hv; exact ev_wf hwS x
        · have := ev_wf hwS f
          rw [hf] at this
          exact (wfL_iff n caps).1 (by simpa [SV.wf] using this) v hv
      have upon : ∀ (R : Ending → World → Prop) (R' : Value → World → Prop), Entd X.P fid → Calls X.P fid (denL B (c.args.toList.map (ev S) ++ caps)).toArray w R → (∀ e w', R e w' → ∃ x, e = .returned x ∧ R' x w') → Oper.gives X.P o a w R' := by
        intro R R' hent hcall hR
        unfold Oper.gives
        rw [run_call hS ho hcl hf hk' hent w]
        exact hcall.mono fun e w' hr => hR e w' hr
      unfold callPG at h
      have gen : GenOK X.P fid (c.args.toList.map (ev S) ++ caps) H n X.m κ → Oper.gives X.P o a w fun x w' => ∃ v H' n' B', κ v H' n' ∧ Aft B M X.m n w v H' n' B' w' ∧ (v.known = true → x = v.den B') := fun g => by
        refine upon _ _ g.ent (g.call B M w hH hwH hwa hown hM) fun e w' h => ?_
        obtain ⟨v, H', n', B', rfl, g1, g2, g3, g4, g5, g6, g7, g8⟩ := h
        exact ⟨_, rfl, v, H', n', B', g1, ⟨g2, g3, g4, g5, g6, g7, g8⟩, fun _ => rfl⟩
      split at h
      · rename_i F hF
        unfold resP at h
        split at h
        · rename_i pv hpv
          have hmem : (fid, F) ∈ X.Γp := lookup_mem hF
          have g := hX.p _ hmem _ H pv.1 pv.2 hpv h.1
          refine upon _ _ g.ent (g.call B w hH) fun e w' h' => ?_
          obtain ⟨rfl, hb⟩ := h'
          exact ⟨_, rfl, pv.2, H, n, B, h.2, ⟨Nat.le_refl _, g.wf n hwa hwH, hwH, fun _ _ => rfl, hH.of_below hb, hown, Kept.of_below hb⟩, fun _ => rfl⟩
        · exact h.elim
      · obtain ⟨_, h⟩ := h
        unfold callG at h
        split at h
        · rename_i G hG
          exact gen (hX.g _ (lookup_mem hG) _ _ _ _ _ h)
        · exact gen h
    · exact h.elim
  | none =>
    cases he : isEff o.op with
    | true =>
      rw [he] at h
      simp only [opB] at h
      obtain ⟨v, H', n', B', x, w', g1, g2, g3, g4, g5, g6, g7, g8, g9, g10⟩ := eff_sound (M := M) hX.τ hS hwS hH hwH hown (hM _ (Nat.le_refl _)) h
      unfold Oper.gives
      rcases g10 with g10 | ⟨g10, rfl⟩ <;> rw [g10] <;> exact ⟨v, H', n', B', g1, ⟨g2, g3, g4, g5, g6, g8, g7⟩, g9⟩
    | false =>
      rw [he] at h
      simp only [opB] at h
      obtain ⟨v, x, g1, g2, g3, g4⟩ := pure_sound (B := B) hX.τ hS hwS hwH h
      unfold Oper.gives
      rw [g4 w hH]
      exact ⟨v, H, n, B, g3, ⟨Nat.le_refl _, g1, hwH, fun _ _ => rfl, hH, hown, Kept.refl _ _⟩, g2⟩

def cls (M : Nat → Prop) (w0 : World) (B : Nat → Nat) (H : Heap) : WC := fun w => HR B H w ∧ Kept M w0 w
theorem cls_cl (M : Nat → Prop) (w0 : World) (B : Nat → Nat) (H : Heap) : Cl (cls M w0 B H) := fun _ _ h hb => ⟨h.1.of_below hb, h.2.trans (Kept.of_below hb)⟩

theorem ops_GG {p : Nat} (hX : CxOK X) (all : Array Oper) {q : Bool} (hq : q = true) {QG : KG} {K : KR} {w0 : World} {B0 : Nat → Nat} (hM0 : ∀ i, w0.heap.size ≤ i → M i) :
    ∀ (rest : List Oper) (S : Env) (H : Heap) (n : Nat) (B : Nat → Nat) (a : Act) (w : World), dstsOK N rest = true → Gs X N p M S H n B a w → Kept M w0 w → (∀ k, k < p → B k = B0 k) → opsVC X q all rest S H n K →
      (∀ S' H' n' B' a' w', K S' H' n' → Gs X N p M S' H' n' B' a' w' → Kept M w0 w' → (∀ k, k < p → B' k = B0 k) → QG a' (cls M w0 B' H')) → walkG X.P ⟨X.sx, false⟩ all QG rest a (cls M w0 B H)
  | [], S, H, n, B, a, w, _, hg, hkw, hag, h, hK => hK S H n B a w h hg hkw hag
  | o :: rest, S, H, n, B, a, w, hd, hg, hkw, hag, h, hK => by
    have hd1 := dstsOK_head hd
    have hd2 := dstsOK_tail hd
    have next : ∀ (S : Env) (v : SV) (x : Value), Gs X N p M S H n B a w → v.wf n → (v.known = true → x = v.den B) → opsVC X q all rest (sput S o.dst v) H n K → walkG X.P ⟨X.sx, false⟩ all QG rest (a.put o.dst x) (cls M w0 B H) := fun S v x hg hv hx h =>
      ops_GG hX all hq hM0 rest _ H n B _ w hd2 (hg.put o.dst hd1 (H' := H) (n' := n) (B' := B) (w' := w) ⟨Nat.le_refl _, hv, hg.hwf, fun _ _ => rfl, hg.hr, hg.own, Kept.refl _ _⟩ hx).1 hkw hag h hK
    have run : ∀ S, Gs X N p M S H n B a w → (opVC X q o.op S H n fun v H' n' => opsVC X q all rest (sput S o.dst v) H' n' K) → stepG ⟨X.sx, false⟩ X.P o a (walkG X.P ⟨X.sx, false⟩ all QG rest) (cls M w0 B H) := by
      intro S hg h
      have eff : ∀ m : Bool, (m = true → kindOf ⟨X.sx, false⟩ o.op = .a) → stepE m X.P o a (walkG X.P ⟨X.sx, false⟩ all QG rest) (cls M w0 B H) := by
        intro m hm
        have h2 : opVC X q o.op S H n fun v H' n' => opsVC X q all rest (sput S o.dst v) H' n' K ∧ (m = true → ∃ ob, H' = (n, ob) :: H) := by
          cases m with
          | false =>
            have e1 : (fun v H' n' => opsVC X q all rest (sput S o.dst v) H' n' K ∧ (false = true → ∃ ob, H' = (n, ob) :: H)) = (fun v H' n' => opsVC X q all rest (sput S o.dst v) H' n' K) := by
              funext v H' n'; simp
            rw [e1]; exact h
          | true =>
            have hk := hm rfl
            obtain ⟨k1, k2⟩ := kind_a hk
            unfold opVC at h ⊢
            rw [k1, k2] at h ⊢
            simp only [opB] at h ⊢
            have := eff_ext (kind_ns hk) (fun H' => ∃ ob, H' = (n, ob) :: H) (fun o => ⟨o, rfl⟩) hk h
            have e1 : (fun v H' n' => opsVC X q all rest (sput S o.dst v) H' n' K ∧ (True → ∃ ob, H' = (n, ob) :: H)) = (fun v H' n' => opsVC X q all rest (sput S o.dst v) H' n' K ∧ ∃ ob, H' = (n, ob) :: H) := by
              funext v H' n'; simp
            rw [e1]; exact this
        refine ⟨{i : SV × Heap × Nat × (Nat → Nat) × Value // (opsVC X q all rest (sput S o.dst i.1) i.2.1 i.2.2.1 K ∧ (m = true → ∃ ob, i.2.1 = (n, ob) :: H)) ∧ n ≤ i.2.2.1 ∧ i.1.wf i.2.2.1 ∧ hwf i.2.2.1 i.2.1 ∧ (∀ k, k < n → i.2.2.2.1 k = B k) ∧
            Own M X.m i.2.2.2.1 i.2.1 ∧ (i.1.known = true → i.2.2.2.2 = i.1.den i.2.2.2.1)}, fun i => i.1.2.2.2.2, fun i => cls M w0 i.1.2.2.2.1 i.1.2.1, fun w' hw' => ?_, fun hm' i w' hw' => ?_, fun i => cls_cl _ _ _ _, fun i hi => ?_⟩
        · have := op_gives hX hg.sr hg.swf hw'.1 hg.hwf hg.own (fun i hi => hM0 i (Nat.le_trans hw'.2.size hi)) h2
          refine Oper.gives_mono this fun x w'' hh => ?_
          obtain ⟨v, H', n', B', g1, g2, g3⟩ := hh
          exact ⟨⟨(v, H', n', B', x), g1, g2.le, g2.wf, g2.hwf, g2.ag, g2.own, g3⟩, rfl, g2.hr, hw'.2.trans g2.kept⟩
        · obtain ⟨⟨v, H', n', B', x⟩, g1, g2, g3, g4, g5, g6, g7⟩ := i
          obtain ⟨ob, hob⟩ := g1.2 hm'
          simp only at hob g5
          subst hob
          exact ⟨HR.tail hg.hwf g5 hw'.1, hw'.2⟩
        · obtain ⟨⟨v, H', n', B', x⟩, g1, g2, g3, g4, g5, g6, g7⟩ := i
          obtain ⟨w1, hw1⟩ := hi
          simp only at g1 g2 g3 g4 g5 g6 g7 hw1 ⊢
          have gs : Gs X N p M (sput S o.dst v) H' n' B' (a.put o.dst x) w1 := ⟨(hg.sr.congr hg.swf g5).put o.dst v x hd1 g7, swf_put (swf_mono g2 hg.swf) o.dst g3, hw1.1, g4, g6, fun i hi => hM0 i (Nat.le_trans hw1.2.size hi), Nat.le_trans hg.p g2⟩
          exact ops_GG hX all hq hM0 rest _ H' n' B' _ w1 hd2 gs hw1.2 (fun k hk => (g5 k (Nat.lt_of_lt_of_le hk hg.p)).trans (hag k hk)) g1.1 hK
      unfold stepG
      split
      · rename_i hk
        obtain ⟨k1, k2⟩ := kind_f hk
        unfold opVC at h
        rw [k1, k2] at h
        simp only [opB] at h
        obtain ⟨v, x, g1, g2, g3, g4⟩ := pure_sound (B := B) (H := []) hX.τ hg.sr hg.swf (fun _ _ hl => (nomatch hl)) (pure_fo hk h)
        exact ⟨x, fun w' => g4 w' ⟨fun k o hl => (nomatch hl), fun k j o o' hl => (nomatch hl)⟩, next S v x hg g1 g2 g3⟩
      · rename_i hk
        rcases kind_q hk with ⟨k1, k2⟩ | ⟨f, hs, hf⟩
        · unfold opVC at h
          rw [k1, k2] at h
          simp only [opB] at h
          obtain ⟨v, x, g1, g2, g3, g4⟩ := pure_sound (B := B) hX.τ hg.sr hg.swf hg.hwf h
          refine ⟨x, fun w' hw' => ?_, next S v x hg g1 g2 g3⟩
          unfold qAt Oper.gives
          rw [g4 w' hw'.1]
          exact ⟨rfl, Bel.refl _ _⟩
        · subst hq
          unfold opVC at h
          obtain ⟨c, ho, hcl, hargs⟩ := callee_spec hf
          rw [hf] at h
          simp only [opB, hs] at h
          obtain ⟨hk1, h⟩ := h
          rw [hargs] at hk1 h
          have hk' : ∀ x ∈ c.args.toList, (ev S x).known = true := fun x hx => List.all_eq_true.1 hk1 x hx
          unfold callVC at h
          split at h
          · rename_i fid caps hfn
            have hwa : wfL n (c.args.toList.map (ev S) ++ caps) := by
              rw [wfL_iff]
              intro v hv
              rcases List.mem_append.1 hv with hv | hv
              · obtain ⟨x, _, rfl⟩ := List.mem_map.1 hv; exact ev_wf hg.swf x
              · have := ev_wf hg.swf f
                rw [hfn] at this
                exact (wfL_iff n caps).1 (by simpa [SV.wf] using this) v hv
            unfold callPG at h
            split at h
            · rename_i F hF
              unfold resP at h
              split at h
              · rename_i pv hpv
                have g := hX.p _ (lookup_mem hF) _ H pv.1 pv.2 hpv h.1
                refine ⟨pv.2.den B, fun w' hw' => ?_, next S pv.2 _ hg (g.wf n hwa hg.hwf) (fun _ => rfl) h.2⟩
                unfold qAt Oper.gives
                rw [run_call hg.sr ho hcl hfn hk' g.ent w']
                exact (g.call B w' hw'.1).mono fun e w'' h' => ⟨_, h'.1, rfl, h'.2⟩
              · exact h.elim
            · exact absurd h.1 (by decide)
          · exact h.elim
      · rename_i hk
        exact eff true fun _ => hk
      · exact eff false fun h => by cases h
    have skip : ∀ S, Gs X N p M S H n B a w → opsVC X q all rest (sput S o.dst .und) H n K → walkG X.P ⟨X.sx, false⟩ all QG rest (a.put o.dst undef) (cls M w0 B H) := fun S hg h => next S .und undef hg trivial (fun _ => rfl) h
    unfold walkG operG
    unfold opsVC at h
    split at h
    · rename_i hgd
      rw [if_pos (by simp [Region.wanted, hgd])]
      exact run S hg h
    · rename_i j want hgd
      split at h
      · rename_i t ht
        split at h
        · rename_i c hc
          have hk := hg.know hc
          have hslot := hg.slot hc rfl
          have hy : yielded all a.tmps j = some c := by simp [yielded, ht, hslot, SV.den]
          by_cases hcw : c = want
          · subst hcw
            rw [if_pos (by simp [Region.wanted, hgd, hy])]
            exact run _ hk (h.1 rfl)
          · have hcn : c = !want := by cases c <;> cases want <;> simp_all
            subst hcn
            rw [if_neg (by simp [Region.wanted, hgd, hy])]
            exact skip _ hk (h.2 rfl)
        · rename_i hc
          have hslot := hg.slot hc rfl
          have hy : yielded all a.tmps j = none := by simp [yielded, ht, hslot, SV.den]; rfl
          rw [if_neg (by simp [Region.wanted, hgd, hy])]
          exact skip _ hg h
        · exact h.elim
      · exact h.elim
theorem ops_G {p : Nat} (hX : CxOK X) (all : Array Oper) {q : Bool} (hq : q = true) {Q : Act → World → Prop} {K : KR} {w0 : World} {B0 : Nat → Nat} (hM0 : ∀ i, w0.heap.size ≤ i → M i)
    (rest : List Oper) (S : Env) (H : Heap) (n : Nat) (B : Nat → Nat) (a : Act) (w : World) (hd : dstsOK N rest = true) (hg : Gs X N p M S H n B a w) (hkw : Kept M w0 w) (hag : ∀ k, k < p → B k = B0 k) (h : opsVC X q all rest S H n K)
      (hK : ∀ S' H' n' B' a' w', K S' H' n' → Gs X N p M S' H' n' B' a' w' → Rel p M B0 w0 B' w' → Q a' w') : walkG X.P ⟨X.sx, false⟩ all (fun a' C' => ∀ w', C' w' → Q a' w') rest a (cls M w0 B H) :=
  ops_GG hX all hq hM0 rest S H n B a w hd hg hkw hag h fun S' H' n' B' a' w' k g _ hag' => fun w'' hw'' => hK S' H' n' B' a' w'' k ⟨g.sr, g.swf, hw''.1, g.hwf, g.own, fun i hi => hM0 i (Nat.le_trans hw''.2.size hi), g.p⟩ ⟨hag', hw''.2⟩

/-- The conditions of a region walked by a tree of orders. -/
def treeVC (X : Cx) (all : Array Oper) : OT → Env → Heap → Nat → KR → Prop
  | .done, S, H, n, K => K S H n
  | .one k t, S, H, n, K => match all[k]? with
    | some o => opsVC X true all [o] S H n fun S' H' n' => treeVC X all t S' H' n' K
    | none => False
  | .alt k t r, S, H, n, K => (match all[k]? with
    | some o => opsVC X true all [o] S H n fun S' H' n' => treeVC X all t S' H' n' K
    | none => False) ∧ treeVC X all r S H n K
  | .stop, _, _, _, _ => True
theorem tree_G {p : Nat} (hX : CxOK X) (all : Array Oper) {Q : Act → World → Prop} {K : KR} {w0 : World} {B0 : Nat → Nat} (hM0 : ∀ i, w0.heap.size ≤ i → M i) (hd : ∀ (k : Nat) (o : Oper), all[k]? = some o → dstsOK N [o] = true)
      (hK : ∀ S' H' n' B' a' w', K S' H' n' → Gs X N p M S' H' n' B' a' w' → Rel p M B0 w0 B' w' → Q a' w') :
    ∀ (T : OT) (S : Env) (H : Heap) (n : Nat) (B : Nat → Nat) (a : Act) (w : World), Gs X N p M S H n B a w → Kept M w0 w → (∀ k, k < p → B k = B0 k) → treeVC X all T S H n K →
      treeG X.P ⟨X.sx, false⟩ all (fun a' C' => ∀ w', C' w' → Q a' w') T a (cls M w0 B H)
  | .done, S, H, n, B, a, w, hg, hkw, hag, h => fun w'' hw'' => hK S H n B a w'' h ⟨hg.sr, hg.swf, hw''.1, hg.hwf, hg.own, fun i hi => hM0 i (Nat.le_trans hw''.2.size hi), hg.p⟩ ⟨hag, hw''.2⟩
  | .one k t, S, H, n, B, a, w, hg, hkw, hag, h => by
    unfold treeVC at h
    unfold treeG opG
    split at h
    · rename_i o ho
      rw [ho]
      exact ops_GG (QG := treeG X.P ⟨X.sx, false⟩ all (fun a' C' => ∀ w', C' w' → Q a' w') t) hX all rfl hM0 [o] S H n B a w (hd k o ho) hg hkw hag h fun S' H' n' B' a' w' k g hkw' hag' => tree_G hX all hM0 hd hK t S' H' n' B' a' w' g hkw' hag' k
    · exact h.elim
  | .alt k t r, S, H, n, B, a, w, hg, hkw, hag, h => by
    unfold treeVC at h
    obtain ⟨h, h2⟩ := h
    refine ⟨?_, tree_G hX all hM0 hd hK r S H n B a w hg hkw hag h2⟩
    unfold opG
    split at h
    · rename_i o ho
      rw [ho]
      exact ops_GG (QG := treeG X.P ⟨X.sx, false⟩ all (fun a' C' => ∀ w', C' w' → Q a' w') t) hX all rfl hM0 [o] S H n B a w (hd k o ho) hg hkw hag h fun S' H' n' B' a' w' k g hkw' hag' => tree_G hX all hM0 hd hK t S' H' n' B' a' w' g hkw' hag' k
    · exact h.elim
  | .stop, _, _, _, _, _, _, _, _, _, _ => trivial
end
end Go.Proofs.Ytckcojgfgcjamaa
set_option maxRecDepth 100000
set_option linter.unusedSimpArgs false
set_option linter.unusedVariables false
namespace Go.Proofs.Ytckcojgfgcjamaa
open Go Go.RowKit

def objSize : SObj → Option (Nat × Nat)
  | .ints L e => some (L.length, e)
  | .bls L e => some (L.length, e)
  | .cells l e => some (l.length, e)
  | .hole n e => some (n, e)
  | _ => none
theorem objSize_sat {B : Nat → Nat} {w : World} {id : Nat} {o : SObj} {k e : Nat} (h : objSize o = some (k, e)) (hs : o.sat B w id) : o.live = true ∧ (SObj.hole k e).sat B w id := by
  cases o <;> simp only [objSize] at h <;> cases h
  case ints L => exact ⟨rfl, _, hs, by simp⟩
  case bls L => exact ⟨rfl, _, hs, by simp⟩
  case cells l => exact ⟨rfl, _, hs, by simp [denL_map]⟩
  case hole => exact ⟨rfl, hs⟩
theorem HR.weak {B : Nat → Nat} {H : Heap} {w : World} {b k e : Nat} {o : SObj} (h : HR B H w) (hb : hget H b = some o) (hl : o.live = true) (ho : objSize o = some (k, e)) : HR B ((b, .hole k e) :: H) w := by
  refine ⟨fun j o1 h1 h2 => ?_, fun j1 j2 o1 o2 h1 h2 h3 h4 he => ?_⟩
  · rw [hget_cons] at h1
    split at h1
    · rename_i hj; subst hj; cases h1; exact (objSize_sat ho (h.at_ j o hb hl)).2
    · exact h.at_ j o1 h1 h2
  · have up : ∀ j o1, hget ((b, .hole k e) :: H) j = some o1 → o1.live = true → ∃ o2, hget H j = some o2 ∧ o2.live = true := fun j o1 h1 h2 => by
      rw [hget_cons] at h1
      split at h1
      · rename_i hj; rw [hj]; exact ⟨o, hb, hl⟩
      · exact ⟨o1, h1, h2⟩
    obtain ⟨p1, q1, r1⟩ := up j1 o1 h1 h2
    obtain ⟨p2, q2, r2⟩ := up j2 o2 h3 h4
    exact h.inj j1 j2 p1 p2 q1 r1 q2 r2 he
/-- What stands in the new heap stands, as far as the old one says, in the old one. -/
def Dn (H : Heap) (n : Nat) (H' : Heap) : Prop := ∀ {B B' : Nat → Nat} (w' : World), (∀ k, k < n → B' k = B k) → HR B' H' w' → HR B H w'

def storeHVC (m : Nat) (d : TyD) (a v : SV) (H : Heap) (n : Nat) (κ : K1) : Prop := match a with
  | .ptr b 0 => m ≤ b ∧ d.k ≠ .other ∧ match hget H b with
    | some (.hole k e) => d.size = k ∧ match blockOf v e with
      | some o' => objSize o' = some (k, e) ∧ κ .und ((b, o') :: H) n
      | none => False
    | _ => False
  | _ => False
def allocHVC (d : TyD) (e : Nat) (H : Heap) (n : Nat) (κ : K1) : Prop := d.k ≠ .other ∧ flat d.z = true ∧ match blockOf d.z e with
  | some o => match objSize o with
    | some (k, _) => κ (.ptr n 0) ((n, .hole k e) :: H) (n + 1)
    | none => False
  | none => False
def opHVC (X : Cx) (op : Op) (S : Env) (H : Heap) (n : Nat) (κ : K1) : Prop := match op with
  | .store t x y => storeHVC X.m (X.τ t) (ev S x) (ev S y) H n κ
  | .alloc e => allocHVC (X.τ e) e H n κ
  | op => opVC X true op S H n κ
/-- The operations of such a region. -/
def opsVH (X : Cx) (all : Array Oper) : List Oper → Env → Heap → Nat → KR → Prop
  | [], S, H, n, K => K S H n
  | o :: rest, S, H, n, K => match o.guard with
    | none => opHVC X o.op S H n fun v H' n' => opsVH X all rest (sput S o.dst v) H' n' K
    | some (j, want) => match (all[j]?).bind (·.dst) with
      | some t => match sget S t with
        | .bool c => (c = want → opHVC X o.op ((t, .bool want) :: S) H n fun v H' n' => opsVH X all rest (sput ((t, .bool want) :: S) o.dst v) H' n' K) ∧
            (c = !want → opsVH X all rest (sput ((t, .bool (!want)) :: S) o.dst .und) H n K)
        | .und => opsVH X all rest (sput S o.dst .und) H n K
        | _ => False
      | none => False
theorem opH_pure {X : Cx} {op : Op} {S : Env} {H : Heap} {n : Nat} {κ : K1} {c : List Nat} (h : kindOf ⟨c, true⟩ op = .f ∨ kindOf ⟨c, true⟩ op = .q) : opHVC X op S H n κ = opVC X true op S H n κ := by
  cases op <;> first | rfl | (rcases h with h | h <;> simp only [kindOf] at h <;> cases h)
theorem blockOf_one {v : SV} {e : Nat} {o : SObj} (h : blockOf v e = some o) (B : Nat → Nat) : ∀ x ∈ (v.den B).cells.toList, x.oneCell' = true := by
  cases v
  case stc l =>
    simp only [blockOf] at h
    split at h
    · rename_i ha
      intro x hx
      simp only [SV.den, Value.cells, denL_map, List.mem_map] at hx
      obtain ⟨y, hy, rfl⟩ := hx
      exact (oneCell_den (List.all_eq_true.1 ha y hy) B).2
    · cases h
  case int => simp only [blockOf] at h; cases h; intro x hx; simp [SV.den, Value.cells] at hx; subst hx; rfl
  case bool => simp only [blockOf] at h; cases h; intro x hx; simp [SV.den, Value.cells] at hx; subst hx; rfl
  case arr L => simp only [blockOf] at h; cases h; intro x hx; exact oneCell_ints L x (by simpa [SV.den, Value.cells] using hx)
  case barr L => simp only [blockOf] at h; cases h; intro x hx; exact oneCell_bls L x (by simpa [SV.den, Value.cells] using hx)
  case lit u =>
    simp only [blockOf] at h
    split at h
    · rename_i hu
      cases h
      rw [litNil_eq hu]
      intro x hx; simp [SV.den, Value.cells] at hx; subst hx; rfl
    · cases h
  all_goals (simp only [blockOf] at h; first | (cases h; done) | (cases h; intro x hx; simp [SV.den, Value.cells] at hx; subst hx; rfl))
theorem blockOf_elem {v : SV} {e : Nat} {o : SObj} (h : blockOf v e = some o) : ∃ k, objSize o = some (k, e) := by
  cases v <;> simp only [blockOf] at h <;> first | (cases h; done) | (cases h; exact ⟨_, rfl⟩) | (split at h <;> cases h; exact ⟨_, rfl⟩)

section
variable {X : Cx} {B : Nat → Nat} {M : Nat → Prop} {H : Heap} {n : Nat} {κ : K1} {w : World} {S : Env} {N : Nat} {a : Act}

theorem opH_dn {op : Op} {c : List Nat} (hwH : hwf n H) (hk : kindOf ⟨c, true⟩ op = .a) (h : opHVC X op S H n κ) : opHVC X op S H n (fun v H' n' => κ v H' n' ∧ Dn H n H') := by
  have tail : ∀ o : SObj, Dn H n ((n, o) :: H) := fun o _ _ _ hag hr => HR.tail hwH hag hr
  have old : ∀ op : Op, isStore op = false → kindOf ⟨c, true⟩ op = .a → opVC X true op S H n κ → opVC X true op S H n (fun v H' n' => κ v H' n' ∧ Dn H n H') := by
    intro op hs hk h
    obtain ⟨k1, k2⟩ := kind_a hk
    unfold opVC at h ⊢
    rw [k1, k2] at h ⊢
    simp only [opB] at h ⊢
    exact eff_ext hs (fun H' => Dn H n H') tail hk h
  cases op
  case store t x y =>
    simp only [opHVC, storeHVC] at h ⊢
    split at h
    · rename_i b hx
      obtain ⟨h1, h2, h3⟩ := h
      refine ⟨h1, h2, ?_⟩
      split at h3
      · rename_i k e hg
        obtain ⟨h4, h5⟩ := h3
        refine ⟨h4, ?_⟩
        split at h5
        · rename_i o' hbo
          obtain ⟨h6, h7⟩ := h5
          refine ⟨h6, h7, fun {B B'} w' hag hr => ?_⟩
          have hl := (objSize_sat h6 (hr.at_ b o' (by rw [hget_cons, if_pos rfl]) (blockOf_spec hbo B').1)).2
          have hbn := (hwH b _ hg).1
          refine ⟨fun j o1 g1 g2 => ?_, fun j1 j2 o1 o2 g1 g2 g3 g4 he => ?_⟩
          · have hj := hwH j o1 g1
            by_cases hjb : j = b
            · subst hjb
              rw [hg] at g1
              cases g1
              rw [← hag j hbn]
              exact hl
            · have := hr.at_ j o1 (by rw [hget_cons, if_neg hjb]; exact g1) g2
              rw [hag j hj.1] at this
              exact SObj.sat_congr (fun k hk => (hag k hk).symm) o1 hj.2 this
          · have up : ∀ j o1, hget H j = some o1 → o1.live = true → ∃ o2, hget ((b, o') :: H) j = some o2 ∧ o2.live = true := fun j o1 g1 g2 => by
              rw [hget_cons]
              by_cases hjb : j = b
              · rw [if_pos hjb]; exact ⟨o', rfl, (blockOf_spec hbo B').1⟩
              · rw [if_neg hjb]; exact ⟨o1, g1, g2⟩
            obtain ⟨p1, q1, r1⟩ := up j1 o1 g1 g2
            obtain ⟨p2, q2, r2⟩ := up j2 o2 g3 g4
            refine hr.inj j1 j2 p1 p2 q1 r1 q2 r2 ?_
            rw [hag j1 (hwH j1 o1 g1).1, hag j2 (hwH j2 o2 g3).1]
            exact he
        · exact h5.elim
      · exact h3.elim
    · exact h.elim
  case alloc e =>
    simp only [opHVC, allocHVC] at h ⊢
    refine ⟨h.1, h.2.1, ?_⟩
    have h := h.2.2
    split at h
    · split at h
      · exact ⟨h, tail _⟩
      · exact h.elim
    · exact h.elim
  all_goals exact old _ rfl hk h

theorem opH_gives {o : Oper} (hX : CxOK X) (hS : SR B N S a) (hwS : swf n S) (hH : HR B H w) (hwH : hwf n H) (hown : Own M X.m B H) (hM : ∀ i, w.heap.size ≤ i → M i) (h : opHVC X o.op S H n κ) :
    Oper.gives X.P o a w fun x w' => ∃ v H' n' B', κ v H' n' ∧ Aft B M X.m n w v H' n' B' w' ∧ (v.known = true → x = v.den B') := by
  unfold opHVC at h
  split at h
  · rename_i t x y ho
    unfold storeHVC at h
    split at h
    · rename_i b hx
      obtain ⟨h1, h2, h3⟩ := h
      split at h3
      · rename_i k e hg
        obtain ⟨h4, h5⟩ := h3
        split at h5
        · rename_i o' hbo
          obtain ⟨h6, h7⟩ := h5
          obtain ⟨s1, s2, s3, s4⟩ := blockOf_spec hbo B
          obtain ⟨c, hc, hcs⟩ := hH.at_ b _ hg rfl
          have hsz : (SV.den B (ev S y)).cells.size = k := by
            have hd : (w.setRow (B b) (SV.den B (ev S y)).cells).heap[B b]? = some (o'.den B) := by rw [s2]; exact setRow_heap w _ _ _ _ _ hc
            obtain ⟨c', g1, g2⟩ := (objSize_sat h6 (SObj.sat_of_den (blockOf_full hbo) hd)).2
            rw [hd, s2] at g1
            cases g1
            exact g2
          have hst := run_storeAt (P := X.P) (off := 0) (x := SV.den B (ev S y)) hX.τ h2 hc (by rw [hsz, h4]) (by omega) (blockOf_one hbo B)
          have hrow : (c.toList.take 0 ++ (SV.den B (ev S y)).cells.toList ++ c.toList.drop (0 + (SV.den B (ev S y)).cells.size)).toArray = (SV.den B (ev S y)).cells := by
            rw [List.drop_of_length_le (by simp; omega)]; simp
          rw [hrow] at hst
          unfold Oper.gives execOp
          have e1 := ev_den hS x (by rw [hx]; rfl)
          have e2 := ev_den hS y s3
          rw [hx] at e1
          simp only [ho, e1, e2, SV.den] at hst ⊢
          simp only [Sem.run_bind, hst, Result.andThen_ok, Sem.run_pure]
          exact ⟨.und, _, n, B, h7, ⟨Nat.le_refl _, trivial, hwf_cons hwH (hwH b _ hg).1 (s4 n (ev_wf hwS y)), fun _ _ => rfl, hH.set hg rfl c hc s2 (blockOf_full hbo), hown.set hg rfl, Kept.setRow w _ _ (hown b _ hg rfl h1)⟩, fun _ => rfl⟩
        · exact h5.elim
      · exact h3.elim
    · exact h.elim
  · rename_i e ho
    unfold allocHVC at h
    obtain ⟨hk, hf, h⟩ := h
    split at h
    · rename_i o1 hbo
      split at h
      · rename_i k e1 hos
        have he1 : e1 = e := by obtain ⟨k', hk'⟩ := blockOf_elem hbo; rw [hos] at hk'; cases hk'; rfl
        subst he1
        have hold : opVC X true o.op S H n (fun v H' n' => v = .ptr n 0 ∧ n' = n + 1 ∧ H' = (n, o1) :: H) := by
          rw [ho]
          refine ⟨hk, hf, ?_⟩
          unfold newVC
          rw [hbo]
          exact ⟨rfl, rfl, rfl⟩
        refine Oper.gives_mono (op_gives hX hS hwS hH hwH hown hM hold) fun x w' hh => ?_
        obtain ⟨v, H', n', B', ⟨rfl, rfl, rfl⟩, ⟨g1, g2, g3, g4, g5, g6, g7⟩, g8⟩ := hh
        have hl : o1.live = true := (blockOf_spec hbo B').1
        have hg : hget ((n, o1) :: H) n = some o1 := by rw [hget_cons, if_pos rfl]
        have hr := g5.weak hg hl hos
        refine ⟨.ptr n 0, (n, .hole k e1) :: H, n + 1, B', h, ⟨g1, g2, hwf_cons (hwf_mono (by omega) hwH) (by omega) trivial, g4, ?_, ?_, g7⟩, g8⟩
        · refine ⟨fun j o2 q1 q2 => ?_, fun j1 j2 o2 o3 q1 q2 q3 q4 he => ?_⟩
          · refine hr.at_ j o2 ?_ q2
            rw [hget_cons] at q1 ⊢
            split at q1
            · rename_i hj; rw [if_pos hj]; exact q1
            · rename_i hj; rw [if_neg hj, hget_cons, if_neg hj]; exact q1
          · have up : ∀ j o2, hget ((n, SObj.hole k e1) :: H) j = some o2 → hget ((n, SObj.hole k e1) :: (n, o1) :: H) j = some o2 := fun j o2 q1 => by
              rw [hget_cons] at q1 ⊢
              split at q1
              · rename_i hj; rw [if_pos hj]; exact q1
              · rename_i hj; rw [if_neg hj, hget_cons, if_neg hj]; exact q1
            exact hr.inj j1 j2 o2 o3 (up j1 o2 q1) q2 (up j2 o3 q3) q4 he
        · intro j o2 q1 q2 q3
          rw [hget_cons] at q1
          split at q1
          · rename_i hj; subst hj; exact g6 j o1 hg hl q3
          · rename_i hj; exact g6 j o2 (by rw [hget_cons, if_neg hj]; exact q1) q2 q3
      · exact h.elim
    · exact h.elim
  · exact op_gives hX hS hwS hH hwH hown hM h

theorem ops_H {p : Nat} (hX : CxOK X) (all : Array Oper) {Q : Act → World → Prop} {K : KR} {w0 : World} {B0 : Nat → Nat} (hM0 : ∀ i, w0.heap.size ≤ i → M i) :
    ∀ (rest : List Oper) (S : Env) (H : Heap) (n : Nat) (B : Nat → Nat) (a : Act) (w : World), dstsOK N rest = true → Gs X N p M S H n B a w → Kept M w0 w → (∀ k, k < p → B k = B0 k) → opsVH X all rest S H n K →
      (∀ S' H' n' B' a' w', K S' H' n' → Gs X N p M S' H' n' B' a' w' → Rel p M B0 w0 B' w' → Q a' w') → walkG X.P ⟨X.sx, true⟩ all (fun a' C' => ∀ w', C' w' → Q a' w') rest a (cls M w0 B H)
  | [], S, H, n, B, a, w, _, hg, _, hag, h, hK => fun w' hw' => hK S H n B a w' h ⟨hg.sr, hg.swf, hw'.1, hg.hwf, hg.own, fun i hi => hM0 i (Nat.le_trans hw'.2.size hi), hg.p⟩ ⟨hag, hw'.2⟩
  | o :: rest, S, H, n, B, a, w, hd, hg, hkw, hag, h, hK => by
    have hd1 := dstsOK_head hd
    have hd2 := dstsOK_tail hd
    have next : ∀ (S : Env) (v : SV) (x : Value), Gs X N p M S H n B a w → v.wf n → (v.known = true → x = v.den B) → opsVH X all rest (sput S o.dst v) H n K → walkG X.P ⟨X.sx, true⟩ all (fun a' C' => ∀ w', C' w' → Q a' w') rest (a.put o.dst x) (cls M w0 B H) := fun S v x hg hv hx h =>
      ops_H hX all hM0 rest _ H n B _ w hd2 (hg.put o.dst hd1 (H' := H) (n' := n) (B' := B) (w' := w) ⟨Nat.le_refl _, hv, hg.hwf, fun _ _ => rfl, hg.hr, hg.own, Kept.refl _ _⟩ hx).1 hkw hag h hK
    have run : ∀ S, Gs X N p M S H n B a w → (opHVC X o.op S H n fun v H' n' => opsVH X all rest (sput S o.dst v) H' n' K) → stepG ⟨X.sx, true⟩ X.P o a (walkG X.P ⟨X.sx, true⟩ all (fun a' C' => ∀ w', C' w' → Q a' w') rest) (cls M w0 B H) := by
      intro S hg h
      have eff : ∀ m : Bool, (m = true → kindOf ⟨X.sx, true⟩ o.op = .a) → stepE m X.P o a (walkG X.P ⟨X.sx, true⟩ all (fun a' C' => ∀ w', C' w' → Q a' w') rest) (cls M w0 B H) := by
        intro m hm
        have h2 : opHVC X o.op S H n fun v H' n' => opsVH X all rest (sput S o.dst v) H' n' K ∧ (m = true → Dn H n H') := by
          cases m with
          | false =>
            have e1 : (fun v H' n' => opsVH X all rest (sput S o.dst v) H' n' K ∧ (false = true → Dn H n H')) = (fun v H' n' => opsVH X all rest (sput S o.dst v) H' n' K) := by
              funext v H' n'; simp
            rw [e1]; exact h
          | true =>
            have := opH_dn hg.hwf (hm rfl) h
            have e1 : (fun v H' n' => opsVH X all rest (sput S o.dst v) H' n' K ∧ (True → Dn H n H')) = (fun v H' n' => opsVH X all rest (sput S o.dst v) H' n' K ∧ Dn H n H') := by
              funext v H' n'; simp
            rw [show (fun v H' n' => opsVH X all rest (sput S o.dst v) H' n' K ∧ (true = true → Dn H n H')) = (fun v H' n' => opsVH X all rest (sput S o.dst v) H' n' K ∧ Dn H n H') by funext v H' n'; simp]
            exact this
        refine ⟨{i : SV × Heap × Nat × (Nat → Nat) × Value // (opsVH X all rest (sput S o.dst i.1) i.2.1 i.2.2.1 K ∧ (m = true → Dn H n i.2.1)) ∧ n ≤ i.2.2.1 ∧ i.1.wf i.2.2.1 ∧ hwf i.2.2.1 i.2.1 ∧ (∀ k, k < n → i.2.2.2.1 k = B k) ∧
            Own M X.m i.2.2.2.1 i.2.1 ∧ (i.1.known = true → i.2.2.2.2 = i.1.den i.2.2.2.1)}, fun i => i.1.2.2.2.2, fun i => cls M w0 i.1.2.2.2.1 i.1.2.1, fun w' hw' => ?_, fun hm' i w' hw' => ?_, fun i => cls_cl _ _ _ _, fun i hi => ?_⟩
        · have := opH_gives hX hg.sr hg.swf hw'.1 hg.hwf hg.own (fun i hi => hM0 i (Nat.le_trans hw'.2.size hi)) h2
          refine Oper.gives_mono this fun x w'' hh => ?_
          obtain ⟨v, H', n', B', g1, g2, g3⟩ := hh
          exact ⟨⟨(v, H', n', B', x), g1, g2.le, g2.wf, g2.hwf, g2.ag, g2.own, g3⟩, rfl, g2.hr, hw'.2.trans g2.kept⟩
        · obtain ⟨⟨v, H', n', B', x⟩, g1, g2, g3, g4, g5, g6, g7⟩ := i
          exact ⟨g1.2 hm' _ g5 hw'.1, hw'.2⟩
        · obtain ⟨⟨v, H', n', B', x⟩, g1, g2, g3, g4, g5, g6, g7⟩ := i
          obtain ⟨w1, hw1⟩ := hi
          simp only at g1 g2 g3 g4 g5 g6 g7 hw1 ⊢
          have gs : Gs X N p M (sput S o.dst v) H' n' B' (a.put o.dst x) w1 := ⟨(hg.sr.congr hg.swf g5).put o.dst v x hd1 g7, swf_put (swf_mono g2 hg.swf) o.dst g3, hw1.1, g4, g6, fun i hi => hM0 i (Nat.le_trans hw1.2.size hi), Nat.le_trans hg.p g2⟩
          exact ops_H hX all hM0 rest _ H' n' B' _ w1 hd2 gs hw1.2 (fun k hk => (g5 k (Nat.lt_of_lt_of_le hk hg.p)).trans (hag k hk)) g1.1 hK
      unfold stepG
      split
      · rename_i hk
        obtain ⟨k1, k2⟩ := kind_f hk
        rw [opH_pure (.inl hk)] at h
        unfold opVC at h
        rw [k1, k2] at h
        simp only [opB] at h
        obtain ⟨v, x, g1, g2, g3, g4⟩ := pure_sound (B := B) (H := []) hX.τ hg.sr hg.swf (fun _ _ hl => (nomatch hl)) (pure_fo hk h)
        exact ⟨x, fun w' => g4 w' ⟨fun k o hl => (nomatch hl), fun k j o o' hl => (nomatch hl)⟩, next S v x hg g1 g2 g3⟩
      · rename_i hk
        rw [opH_pure (.inr hk)] at h
        rcases kind_q hk with ⟨k1, k2⟩ | ⟨f, hs, hf⟩
        · unfold opVC at h
          rw [k1, k2] at h
          simp only [opB] at h
          obtain ⟨v, x, g1, g2, g3, g4⟩ := pure_sound (B := B) hX.τ hg.sr hg.swf hg.hwf h
          refine ⟨x, fun w' hw' => ?_, next S v x hg g1 g2 g3⟩
          unfold qAt Oper.gives
          rw [g4 w' hw'.1]
          exact ⟨rfl, Bel.refl _ _⟩
        · unfold opVC at h
          obtain ⟨c, ho, hcl, hargs⟩ := callee_spec hf
          rw [hf] at h
          simp only [opB, hs] at h
          obtain ⟨hk1, h⟩ := h
          rw [hargs] at hk1 h
          have hk' : ∀ x ∈ c.args.toList, (ev S x).known = true := fun x hx => List.all_eq_true.1 hk1 x hx
          unfold callVC at h
          split at h
          · rename_i fid caps hfn
            have hwa : wfL n (c.args.toList.map (ev S) ++ caps) := by
              rw [wfL_iff]
              intro v hv
              rcases List.mem_append.1 hv with hv | hv
              · obtain ⟨x, _, rfl⟩ := List.mem_map.1 hv; exact ev_wf hg.swf x
              · have := ev_wf hg.swf f
                rw [hfn] at this
                exact (wfL_iff n caps).1 (by simpa [SV.wf] using this) v hv
            unfold callPG at h
            split at h
            · rename_i F hF
              unfold resP at h
              split at h
              · rename_i pv hpv
                have g := hX.p _ (lookup_mem hF) _ H pv.1 pv.2 hpv h.1
                refine ⟨pv.2.den B, fun w' hw' => ?_, next S pv.2 _ hg (g.wf n hwa hg.hwf) (fun _ => rfl) h.2⟩
                unfold qAt Oper.gives
                rw [run_call hg.sr ho hcl hfn hk' g.ent w']
                exact (g.call B w' hw'.1).mono fun e w'' h' => ⟨_, h'.1, rfl, h'.2⟩
              · exact h.elim
            · exact absurd h.1 (by decide)
          · exact h.elim
      · rename_i hk
        exact eff true fun _ => hk
      · exact eff false fun h => by cases h
    have skip : ∀ S, Gs X N p M S H n B a w → opsVH X all rest (sput S o.dst .und) H n K → walkG X.P ⟨X.sx, true⟩ all (fun a' C' => ∀ w', C' w' → Q a' w') rest (a.put o.dst undef) (cls M w0 B H) := fun S hg h => next S .und undef hg trivial (fun _ => rfl) h
    unfold walkG operG
    unfold opsVH at h
    split at h
    · rename_i hgd
      rw [if_pos (by simp [Region.wanted, hgd])]
      exact run S hg h
    · rename_i j want hgd
      split at h
      · rename_i t ht
        split at h
        · rename_i c hc
          have hk := hg.know hc
          have hslot := hg.slot hc rfl
          have hy : yielded all a.tmps j = some c := by simp [yielded, ht, hslot, SV.den]
          by_cases hcw : c = want
          · subst hcw
            rw [if_pos (by simp [Region.wanted, hgd, hy])]
            exact run _ hk (h.1 rfl)
          · have hcn : c = !want := by cases c <;> cases want <;> simp_all
            subst hcn
            rw [if_neg (by simp [Region.wanted, hgd, hy])]
            exact skip _ hk (h.2 rfl)
        · rename_i hc
          have hslot := hg.slot hc rfl
          have hy : yielded all a.tmps j = none := by simp [yielded, ht, hslot, SV.den]; rfl
          rw [if_neg (by simp [Region.wanted, hgd, hy])]
          exact skip _ hg h
        · exact h.elim
      · exact h.elim

/-! The start: the blocks that are stored into become holes. -/
def startH (ts : List Nat) (S : Env) (H : Heap) (κ : Heap → Prop) : Prop := match ts with
  | [] => κ H
  | t :: ts => match sget S t with
    | .ptr b 0 => match hget H b with
      | some o => match objSize o with
        | some (k, e) => startH ts S ((b, .hole k e) :: H) κ
        | none => False
      | none => False
    | _ => False
theorem startH_sound : ∀ (ts : List Nat) {H : Heap} {κ : Heap → Prop}, startH ts S H κ → hwf n H → ∃ H', κ H' ∧ hwf n H' ∧ (∀ w : World, HR B H w → HR B H' w) ∧ ∀ m : Nat, Own M m B H → Own M m B H'
  | [], H, κ, h, hw => ⟨H, h, hw, fun _ h => h, fun _ h => h⟩
  | t :: ts, H, κ, h, hw => by
    unfold startH at h
    split at h
    · rename_i b hb
      split at h
      · rename_i o hg
        split at h
        · rename_i k e ho
          have hl : o.live = true := by cases o <;> first | rfl | cases ho
          obtain ⟨H', h1, h2, h3, h4⟩ := startH_sound ts h (hwf_cons hw (hw b o hg).1 trivial)
          exact ⟨H', h1, h2, fun w hr => h3 w (hr.weak hg hl ho), fun m ho' => h4 m (ho'.set hg hl)⟩
        · exact h.elim
      · exact h.elim
    · exact h.elim
end
end Go.Proofs.Ytckcojgfgcjamaa
set_option maxRecDepth 100000
set_option linter.unusedSimpArgs false
set_option linter.unusedVariables false
namespace Go.Proofs.Ytckcojgfgcjamaa
open Go Go.RowKit

inductive Ex where
  | normal | exit (id : Nat) | ret
abbrev KE := Ex → Env → Heap → Nat → Prop
def seqK (f : Env → Heap → Nat → KE → Prop) (K : KE) : KE := fun e S H n => match e with
  | .normal => f S H n K
  | .exit id => K (.exit id) S H n
  | .ret => K .ret S H n
def blockK (id : Nat) (K : KE) : KE := fun e S H n => match e with
  | .normal => K .normal S H n
  | .exit id' => if id' = id then K .normal S H n else K (.exit id') S H n
  | .ret => K .ret S H n
def normK (K : KE) : KR := fun S H n => K .normal S H n

/-- What is asked of a state that a loop's head meets: entries of the slots and blocks under a renaming. -/
def subS (ρ : Nat → Nat) (S : Env) : Env → Prop
  | [] => True
  | (t, v) :: r => (sget S t = v.ren ρ ∧ v.known = true) ∧ subS ρ S r
def subH (ρ : Nat → Nat) (m : Nat) (H : Heap) : Heap → Prop
  | [] => True
  | (k, o) :: r => (hget H (ρ k) = some (o.ren ρ) ∧ (m ≤ k → m ≤ ρ k)) ∧ subH ρ m H r
def wfS (n : Nat) : Env → Prop
  | [] => True
  | (_, v) :: r => v.wf n ∧ wfS n r
def wfH (n : Nat) : Heap → Prop
  | [] => True
  | (k, o) :: r => (k < n ∧ o.wf n) ∧ wfH n r
def injOn (ρ : Nat → Nat) (l : List Nat) : Prop := ∀ a ∈ l, ∀ b ∈ l, ρ a = ρ b → a = b
def subHs (ρ : Nat → Nat) (m : Nat) (H H' : Heap) : Prop := ∀ k o, hget H' k = some o → hget H (ρ k) = some (o.ren ρ) ∧ (m ≤ k → m ≤ ρ k) ∧ k ∈ H'.map (·.1)
def Sub (p m : Nat) (S : Env) (H : Heap) (S' : Env) (H' : Heap) (n' : Nat) : Prop :=
  ∃ ρ : Nat → Nat, subS ρ S S' ∧ subHs ρ m H H' ∧ wfS n' S' ∧ hwf n' H' ∧ injOn ρ (H'.map (·.1)) ∧ (∀ k, k < p → ρ k = k) ∧ p ≤ n'

def loopK {ι : Type} (p m : Nat) (Sι : ι → Env) (Hι : ι → Heap) (nι : ι → Nat) (φ : ι → Prop) (μ : ι → Nat) (i : ι) (K : KE) : KE := fun e S H n => match e with
  | .normal => ∃ j, φ j ∧ μ j < μ i ∧ Sub p m S H (Sι j) (Hι j) (nι j)
  | .exit id => K (.exit id) S H n
  | .ret => K .ret S H n

/-- Some regions are walked in a way of their own. -/
def joinK {ι : Type} (p m : Nat) (S : ι → Env) (H : ι → Heap) (n : ι → Nat) : KR := fun S' H' _ => ∃ i, Sub p m S' H' (S i) (H i) (n i)
/-- A region, in one of three ways. -/
def regB (X : Cx) (p : Nat) (o : Option RM) (draw : Bool) (ops : Array Oper) (l : List Oper) (S : Env) (H : Heap) (n : Nat) (K : KE) : Prop := match o with
  | none => opsVC X draw ops l S H n (normK K)
  | some (.tree T) => draw = true ∧ ∃ (ι : Type) (S' : ι → Env) (H' : ι → Heap) (n' : ι → Nat), treeVC X ops T S H n (joinK p X.m S' H' n') ∧ ∀ i, K .normal (S' i) (H' i) (n' i)
  | some (.holes ts) => draw = true ∧ startH ts S H fun H' => opsVH X ops l S H' n (normK K)
/-- The conditions under which a piece of code does what K says. -/
def codeVC (X : Cx) (p : Nat) : Code → Env → Heap → Nat → KE → Prop
  | .skip, S, H, n, K => K .normal S H n
  | .region id ops draw, S, H, n, K => regB X p (X.hr.lookup id) draw ops ops.toList S H n K
  | .seq a b, S, H, n, K => codeVC X p a S H n (seqK (codeVC X p b) K)
  | .cond c x y, S, H, n, K => match ev S c with
    | .bool b => (b = true → codeVC X p x S H n K) ∧ (b = false → codeVC X p y S H n K)
    | _ => False
  | .block id c, S, H, n, K => codeVC X p c S H n (blockK id K)
  | .loop c, S, H, n, K => ∃ (ι : Type) (Sι : ι → Env) (Hι : ι → Heap) (nι : ι → Nat) (φ : ι → Prop) (μ : ι → Nat),
      (∃ j, φ j ∧ Sub p X.m S H (Sι j) (Hι j) (nι j)) ∧ ∀ i, φ i → codeVC X p c (Sι i) (Hι i) (nι i) (loopK p X.m Sι Hι nι φ μ i K)
  | .exit id, S, H, n, K => K (.exit id) S H n
  | .ret, S, H, n, K => K .ret S H n
  | _, _, _, _, _ => False

/-- What is asked of the code's text itself. -/
def regOK (sx : List Nat) (ops : Array Oper) : Option RM → Bool
  | none => lexGB ⟨sx, false⟩ ops
  | some (.holes _) => lexGB ⟨sx, true⟩ ops
  | some (.tree T) => treeB ⟨sx, false⟩ ops T
def codeOK (sx : List Nat) (hr : List (Nat × RM)) (N : Nat) : Code → Bool
  | .region id ops draw => dstsOK N ops.toList && (!draw || regOK sx ops (hr.lookup id))
  | .seq a b => codeOK sx hr N a && codeOK sx hr N b
  | .cond _ x y => codeOK sx hr N x && codeOK sx hr N y
  | .block _ c => codeOK sx hr N c
  | .loop c => codeOK sx hr N c
  | _ => true

def Ex.to : Ex → Exit
  | .normal => .normal
  | .exit id => .exit id
  | .ret => .ret

section
variable {X : Cx} {N p : Nat} {M : Nat → Prop}

theorem wfS_spec {n : Nat} : ∀ {S : Env}, wfS n S → swf n S
  | [], _ => fun t v h => by cases h
  | (t0, v0) :: r, h => fun t v hl => by
    rw [List.lookup_cons] at hl
    by_cases ht : t = t0
    · subst ht; simp at hl; subst hl; exact h.1
    · have : (t == t0) = false := by simpa using ht
      rw [this] at hl
      exact wfS_spec h.2 t v hl
theorem wfH_spec {n : Nat} : ∀ {H : Heap}, wfH n H → hwf n H
  | [], _ => fun k o h => by cases h
  | (k0, o0) :: r, h => fun k o hl => by
    rw [hget_cons] at hl
    split at hl
    · rename_i hk; subst hk; cases hl; exact h.1
    · exact wfH_spec h.2 k o hl
theorem subS_spec {ρ : Nat → Nat} {S : Env} : ∀ {S' : Env}, subS ρ S S' → ∀ t v, S'.lookup t = some v → sget S t = v.ren ρ ∧ v.known = true
  | [], _, t, v, hl => by cases hl
  | (t0, v0) :: r, h, t, v, hl => by
    rw [List.lookup_cons] at hl
    by_cases ht : t = t0
    · subst ht; simp at hl; subst hl; exact h.1
    · have : (t == t0) = false := by simpa using ht
      rw [this] at hl
      exact subS_spec h.2 t v hl
theorem subH_spec {ρ : Nat → Nat} {m : Nat} {H : Heap} : ∀ {H' : Heap}, subH ρ m H H' → subHs ρ m H H'
  | [], _, k, o, hl => by cases hl
  | (k0, o0) :: r, h, k, o, hl => by
    rw [hget_cons] at hl
    split at hl
    · rename_i hk; subst hk; cases hl; exact ⟨h.1.1, h.1.2, by simp⟩
    · have := subH_spec h.2 k o hl
      exact ⟨this.1, this.2.1, by simp [this.2.2]⟩
theorem known_ren {ρ : Nat → Nat} (v : SV) : (v.ren ρ).known = v.known := by cases v <;> rfl

theorem Sub.mk_id {p m : Nat} {S S' : Env} {H H' : Heap} {n' : Nat} (h1 : subS (fun k => k) S S') (h2 : subH (fun k => k) m H H') (h3 : wfS n' S') (h4 : wfH n' H') (h5 : p ≤ n') : Sub p m S H S' H' n' :=
  ⟨fun k => k, h1, subH_spec h2, h3, wfH_spec h4, fun _ _ _ _ h => h, fun _ _ => rfl, h5⟩
theorem mem_keys {H : Heap} {k : Nat} {o : SObj} (h : hget H k = some o) : k ∈ H.map (·.1) := by
  induction H with
  | nil => cases h
  | cons q H ih =>
    obtain ⟨b, o'⟩ := q
    rw [hget_cons] at h
    split at h
    · rename_i e; subst e; simp
    · simp [ih h]
theorem Sub.same {p m : Nat} {S S' : Env} {H : Heap} {n' : Nat} (h1 : subS (fun k => k) S S') (h3 : wfS n' S') (h4 : hwf n' H) (h5 : p ≤ n') : Sub p m S H S' H n' :=
  ⟨fun k => k, h1, fun k o h => ⟨by rw [SObj.ren_id]; exact h, fun h => h, mem_keys h⟩, h3, h4, fun _ _ _ _ h => h, fun _ _ => rfl, h5⟩

theorem Gs.sub {S S' : Env} {H H' : Heap} {n n' : Nat} {B : Nat → Nat} {a : Act} {w : World} (h : Gs X N p M S H n B a w) (hs : Sub p X.m S H S' H' n') : ∃ B', Gs X N p M S' H' n' B' a w ∧ Rel p M B w B' w := by
  obtain ⟨ρ, h1, h2, h3, h4, h5, h6, h7⟩ := hs
  refine ⟨fun k => B (ρ k), ⟨⟨h.sr.size, h.sr.df, fun t v hl hk => ?_⟩, wfS_spec h3, ⟨fun k o hl hk => ?_, fun k j o o' g1 g2 g3 g4 he => ?_⟩, h4, fun k o hl hk hm => ?_, h.new, h7⟩, fun k hk => by simp [h6 k hk], Kept.refl _ _⟩
  · obtain ⟨e1, e2⟩ := subS_spec h1 t v hl
    have := h.slot e1 (by rw [known_ren]; exact e2)
    rw [SV.den_ren] at this
    exact this
  · obtain ⟨e1, _, _⟩ := h2 k o hl
    have := h.hr.at_ _ _ e1 (by rw [SObj.live_ren]; exact hk)
    rw [SObj.sat_ren] at this
    exact this
  · obtain ⟨e1, _, m1⟩ := h2 k o g1
    obtain ⟨e2, _, m2⟩ := h2 j o' g3
    exact h5 k m1 j m2 (h.hr.inj _ _ _ _ e1 (by rw [SObj.live_ren]; exact g2) e2 (by rw [SObj.live_ren]; exact g4) he)
  · obtain ⟨e1, e2, _⟩ := h2 k o hl
    exact h.own _ _ e1 (by rw [SObj.live_ren]; exact hk) (e2 hm)

/-- A loop whose measure stands in no slot. -/
theorem wp_loop_ghost {P : Program} {c : Code} {Q : Exit → Act → World → Prop} {ι : Type} (I : ι → Act → World → Prop) (μ : ι → Nat) {i0 : ι} {a : Act} {w : World} (h0 : I i0 a w)
    (round : ∀ i a w, I i a w → c.wp P (Exit.then (fun a' w' => ∃ j, I j a' w' ∧ μ j < μ i) Q) a w) : (Code.loop c).wp P Q a w := by
  intro b k cs
  have key : ∀ n i a w, μ i = n → I i a w →
      ∃ e a' w', Q e a' w' ∧ Arrives P (lone (b.at a (.code c :: .inLoop c :: k)) cs w) b k cs e a' w' := by
    intro n
    induction n using Nat.strongRecOn with
    | _ n ih =>
      intro i a w hn hI
      obtain ⟨e, a₁, w₁, hq, harr⟩ := round i a w hI b (.inLoop c :: k) cs
      cases e with
      | normal =>
        obtain ⟨j, hI₁, hlt⟩ := hq
        obtain ⟨e₂, a₂, w₂, hq₂, harr₂⟩ := ih (μ j) (hn ▸ hlt) j a₁ w₁ rfl hI₁
        exact ⟨e₂, a₂, w₂, hq₂, .of_steps (Steps.trans harr (.one step_inLoop)) harr₂⟩
      | exit id => exact ⟨_, a₁, w₁, hq, .pass (x := .inLoop c) rfl (fun _ _ => .inl (by simp)) harr⟩
      | goto l => exact ⟨_, a₁, w₁, hq, .pass (x := .inLoop c) rfl (fun _ _ => .inl (by simp)) harr⟩
      | ret => exact ⟨_, a₁, w₁, hq, .pass (x := .inLoop c) rfl (fun _ _ => .inl (by simp)) harr⟩
      | panic ch => exact ⟨_, a₁, w₁, hq, .pass (x := .inLoop c) rfl (fun _ _ => .inl (by simp)) harr⟩
      | outgrown => exact ⟨_, a₁, w₁, hq, .pass (x := .inLoop c) rfl (fun _ _ => .inl (by simp)) harr⟩
  obtain ⟨e, a', w', hq, harr⟩ := key _ i0 a w rfl h0
  exact ⟨e, a', w', hq, .of_steps (.one step_loop) harr⟩

theorem code_sound (hX : CxOK X) : ∀ (c : Code) (S : Env) (H : Heap) (n : Nat) (B : Nat → Nat) (a : Act) (w : World) (K : KE) (Q : Exit → Act → World → Prop), codeOK X.sx X.hr N c = true → Gs X N p M S H n B a w → codeVC X p c S H n K →
    (∀ e S' H' n' B' a' w', K e S' H' n' → Gs X N p M S' H' n' B' a' w' → Rel p M B w B' w' → Q e.to a' w') → c.wp X.P Q a w
  | .skip, S, H, n, B, a, w, K, Q, _, hg, h, hQ => wp_skip (hQ .normal S H n B a w h hg (Rel.refl _ _ _ _))
  | .region id ops draw, S, H, n, B, a, w, K, Q, hc, hg, h, hQ => by
    simp only [codeOK, Bool.and_eq_true] at hc
    unfold codeVC at h
    cases hlk : X.hr.lookup id with
    | none =>
      rw [hlk] at h hc
      simp only [regB] at h
      cases draw with
      | false =>
        exact wp_region_list (ops_sound hX ops ops.toList S H n B a w hc.1 hg h fun S' H' n' B' a' w' k g r => hQ .normal S' H' n' B' a' w' k g r)
      | true =>
        have hl : lexGB ⟨X.sx, false⟩ ops = true := by simpa [regOK] using hc.2
        have hC0 : cls M w B H { w with drawn := w.drawn + 1 } := ⟨⟨hg.hr.at_, hg.hr.inj⟩, Kept.drew w⟩
        refine wp_region_G (sx := ⟨X.sx, false⟩) (C := cls M w B H) hX.mixed hl (cls_cl _ _ _ _) hC0 ?_
        exact ops_G hX ops rfl hg.new ops.toList S H n B a w hc.1 hg (Kept.refl _ _) (fun _ _ => rfl) h fun S' H' n' B' a' w' k g r => hQ .normal S' H' n' B' a' w' k g r
    | some rm =>
      rw [hlk] at h hc
      cases rm with
      | tree T =>
      simp only [regB] at h
      obtain ⟨rfl, ι, S', H', n', h, hk⟩ := h
      have hl : treeB ⟨X.sx, false⟩ ops T = true := by simpa [regOK] using hc.2
      have hC0 : cls M w B H { w with drawn := w.drawn + 1 } := ⟨⟨hg.hr.at_, hg.hr.inj⟩, Kept.drew w⟩
      refine wp_region_T (sx := ⟨X.sx, false⟩) (C := cls M w B H) hX.mixed hl (cls_cl _ _ _ _) hC0 ?_
      refine tree_G hX ops hg.new (fun k o ho => dstsOK_mem hc.1 ho) (fun S1 H1 n1 B1 a1 w1 k g r => ?_) T S H n B a w hg (Kept.refl _ _) (fun _ _ => rfl) h
      obtain ⟨i, k⟩ := k
      obtain ⟨B2, hg2, hr2⟩ := g.sub k
      exact hQ .normal (S' i) (H' i) (n' i) B2 a1 w1 (hk i) hg2 (r.trans hr2)
      | holes ts =>
      simp only [regB] at h
      obtain ⟨rfl, h⟩ := h
      obtain ⟨H', h1, h2, h3, h4⟩ := startH_sound ts h hg.hwf
      have hl : lexGB ⟨X.sx, true⟩ ops = true := by simpa [regOK] using hc.2
      have hg' : Gs X N p M S H' n B a w := ⟨hg.sr, hg.swf, h3 w hg.hr, h2, h4 _ hg.own, hg.new, hg.p⟩
      have hC0 : cls M w B H' { w with drawn := w.drawn + 1 } := ⟨⟨hg'.hr.at_, hg'.hr.inj⟩, Kept.drew w⟩
      refine wp_region_G (sx := ⟨X.sx, true⟩) (C := cls M w B H') hX.mixed hl (cls_cl _ _ _ _) hC0 ?_
      exact ops_H hX ops hg.new ops.toList S H' n B a w hc.1 hg' (Kept.refl _ _) (fun _ _ => rfl) h1 fun S' H' n' B' a' w' k g r => hQ .normal S' H' n' B' a' w' k g r
  | .seq x y, S, H, n, B, a, w, K, Q, hc, hg, h, hQ => by
    simp only [codeOK, Bool.and_eq_true] at hc
    unfold codeVC at h
    refine wp_seq (code_sound hX x S H n B a w _ _ hc.1 hg h fun e S' H' n' B' a' w' k g r => ?_)
    cases e with
    | normal => exact code_sound hX y S' H' n' B' a' w' K Q hc.2 g k fun e S'' H'' n'' B'' a'' w'' k' g' r' => hQ e S'' H'' n'' B'' a'' w'' k' g' (r.trans r')
    | exit id => exact hQ (.exit id) S' H' n' B' a' w' k g r
    | ret => exact hQ .ret S' H' n' B' a' w' k g r
  | .cond c x y, S, H, n, B, a, w, K, Q, hc, hg, h, hQ => by
    simp only [codeOK, Bool.and_eq_true] at hc
    unfold codeVC at h
    split at h
    · rename_i b hb
      have he := ev_den hg.sr c (by rw [hb]; rfl)
      rw [hb] at he
      cases b with
      | true => exact wp_cond (t := true) he (code_sound hX x S H n B a w K Q hc.1 hg (h.1 rfl) hQ)
      | false => exact wp_cond (t := false) he (code_sound hX y S H n B a w K Q hc.2 hg (h.2 rfl) hQ)
    · exact h.elim
  | .block id c, S, H, n, B, a, w, K, Q, hc, hg, h, hQ => by
    unfold codeVC at h
    refine wp_block (code_sound hX c S H n B a w _ _ hc hg h fun e S' H' n' B' a' w' k g r => ?_)
    cases e with
    | normal => exact hQ .normal S' H' n' B' a' w' k g r
    | exit id' =>
      simp only [blockK] at k
      simp only [Ex.to, Exit.inBlock]
      split at k
      · rename_i hid; rw [if_pos hid]; exact hQ .normal S' H' n' B' a' w' k g r
      · rename_i hid; rw [if_neg hid]; exact hQ (.exit id') S' H' n' B' a' w' k g r
    | ret => exact hQ .ret S' H' n' B' a' w' k g r
  | .loop c, S, H, n, B, a, w, K, Q, hc, hg, h, hQ => by
    unfold codeVC at h
    obtain ⟨ι, Sι, Hι, nι, φ, μ, ⟨j0, hj0, hsub⟩, hround⟩ := h
    obtain ⟨B0, hg0, hr0⟩ := hg.sub hsub
    refine wp_loop_ghost (fun i a' w' => φ i ∧ ∃ B', Gs X N p M (Sι i) (Hι i) (nι i) B' a' w' ∧ Rel p M B w B' w') μ (i0 := j0) ⟨hj0, B0, hg0, hr0⟩ ?_
    intro i a1 w1 ⟨hi, B1, hg1, hr1⟩
    refine code_sound hX c (Sι i) (Hι i) (nι i) B1 a1 w1 _ _ hc hg1 (hround i hi) fun e S' H' n' B' a' w' k g r => ?_
    cases e with
    | normal =>
      obtain ⟨j, hj, hμ, hs⟩ := k
      obtain ⟨B2, hg2, hr2⟩ := g.sub hs
      exact ⟨j, ⟨hj, B2, hg2, hr1.trans (r.trans hr2)⟩, hμ⟩
    | exit id => exact hQ (.exit id) S' H' n' B' a' w' k g (hr1.trans r)
    | ret => exact hQ .ret S' H' n' B' a' w' k g (hr1.trans r)
  | .exit id, S, H, n, B, a, w, K, Q, _, hg, h, hQ => wp_exit (hQ (.exit id) S H n B a w h hg (Rel.refl _ _ _ _))
  | .ret, S, H, n, B, a, w, K, Q, _, hg, h, hQ => wp_ret (hQ .ret S H n B a w h hg (Rel.refl _ _ _ _))
  | .scope _, _, _, _, _, _, _, _, _, _, _, h, _ => h.elim
  | .label _, _, _, _, _, _, _, _, _, _, _, h, _ => h.elim
  | .goto _, _, _, _, _, _, _, _, _, _, _, h, _ => h.elim
  | .refuse _, _, _, _, _, _, _, _, _, _, _, h, _ => h.elim
  | .rangeFunc _ _ _ _, _, _, _, _, _, _, _, _, _, _, h, _ => h.elim
end

/-! Functions. -/
def argS : Nat → List SV → Env
  | _, [] => []
  | k, v :: r => (k, v) :: argS (k + 1) r
def packR : List SV → SV
  | [v] => v
  | l => .tup l
/-- What the call hands back. -/
def resVC (τ : Tys) (S : Env) (H : Heap) (n : Nat) (κ : K1) : List ResultVar → List SV → Prop
  | [], acc => κ (packR acc.reverse) H n
  | .tmp t :: r, acc => (sget S t).known = true ∧ resVC τ S H n κ r (sget S t :: acc)
  | .cell a t :: r, acc => loadVC (τ t) (sget S a) H n fun v _ _ => v.known = true ∧ resVC τ S H n κ r (v :: acc)
def retK (τ : Tys) (rs : List ResultVar) (κ : K1) : KE := fun e S H n => match e with
  | .normal => resVC τ S H n κ rs []
  | .ret => resVC τ S H n κ rs []
  | .exit _ => False

theorem argS_lookup : ∀ (l : List SV) (k t : Nat), (argS k l).lookup t = if t < k then none else l[t - k]?
  | [], k, t => by simp [argS]
  | v :: r, k, t => by
    simp only [argS, List.lookup_cons]
    by_cases h : t = k
    · subst h; simp
    · have hb : (t == k) = false := by simpa using h
      rw [hb]
      simp only [argS_lookup r (k + 1) t]
      by_cases h1 : t < k
      · rw [if_pos h1, if_pos (by omega)]
      · rw [if_neg h1, if_neg (by omega)]
        have : t - k = (t - (k + 1)) + 1 := by omega
        rw [this]
        simp

section
variable {P : Program} {τ : Tys} {B : Nat → Nat} {M : Nat → Prop}

/-- One result as the machine reads it. -/
def resSem (tmps : Array Value) : ResultVar → Sem Value := fun x => match x with
  | .tmp t => pure (tmps.getD t undef)
  | .cell a t => do loadVar t (← asAddr (tmps.getD a undef))

def packV : List Value → Value
  | [v] => v
  | l => .tuple l.toArray
theorem results_run {fn : Func} {tmps : Array Value} {w : World} {vs : List Value} (h : (fn.results.toList.mapM (resSem tmps)).run P w = .ok vs w) (hv : vs.length = fn.results.size) :
    (results fn tmps).run P w = .ok (packV vs) w := by
  have h' : (fn.results.mapM (resSem tmps)).run P w = .ok vs.toArray w := by
    rw [Array.mapM_eq_mapM_toList]
    simp only [Sem.run_map, h, Result.andThen_ok]
  have e : results fn tmps = (do
      let vs ← fn.results.mapM (resSem tmps)
      pure (if h : vs.size = 1 then vs[0] else .tuple vs)) := rfl
  rw [e, Sem.run_bind, h']
  simp only [Result.andThen_ok, Sem.run_pure]
  congr 1
  clear h h' hv e
  match vs with
  | [] => rfl
  | [v] => rfl
  | v :: u :: r => simp [packV]

theorem res_sound {N : Nat} {S : Env} {H : Heap} {n : Nat} {a : Act} {w : World} {κ : K1} (hτ : TysOK P τ) (hS : SR B N S a) (hwS : swf n S) (hH : HR B H w) (hwH : hwf n H) :
    ∀ (rs : List ResultVar) (acc : List SV), resVC τ S H n κ rs acc → (∀ v ∈ acc, v.wf n ∧ v.known = true) → ∃ l : List SV, l.length = rs.length ∧ κ (packR (acc.reverse ++ l)) H n ∧ (∀ v ∈ l, v.wf n ∧ v.known = true) ∧ (rs.mapM (resSem a.tmps)).run P w = .ok (l.map (SV.den B)) w
  | [], acc, h, hacc => ⟨[], rfl, by simpa [resVC] using h, by simp, by simp⟩
  | .tmp t :: r, acc, h, hacc => by
    obtain ⟨hk, h⟩ := h
    have hw := sget_wf hwS t
    obtain ⟨l, h1, h2, h3, h4⟩ := res_sound hτ hS hwS hH hwH r (sget S t :: acc) h (fun v hv => by cases hv with | head => exact ⟨hw, hk⟩ | tail _ hv => exact hacc v hv)
    refine ⟨sget S t :: l, by simp [h1], by simpa using h2, fun v hv => by cases hv with | head => exact ⟨hw, hk⟩ | tail _ hv => exact h3 v hv, ?_⟩
    have hd : a.tmps.getD t undef = (sget S t).den B := ev_den hS (.tmp t) hk
    simp only [List.mapM_cons, Sem.run_bind]
    have : (resSem a.tmps (.tmp t)).run P w = .ok ((sget S t).den B) w := by rw [← hd]; rfl
    rw [this]
    simp only [Result.andThen_ok, h4, Sem.run_pure, List.map_cons]
  | .cell p t :: r, acc, h, hacc => by
    unfold resVC at h
    have hk : (sget S p).known = true := knownOf fun e => by rw [e] at h; exact h
    have hd : a.tmps.getD p undef = (sget S p).den B := ev_den hS (.tmp p) hk
    obtain ⟨v, x, g1, g2, ⟨g3, g4⟩, g5⟩ := load_sound (P := P) (B := B) hτ hwH h
    obtain ⟨l, h1, h2, h3, h4⟩ := res_sound hτ hS hwS hH hwH r (v :: acc) g4 (fun u hu => by cases hu with | head => exact ⟨g1, g3⟩ | tail _ hu => exact hacc u hu)
    refine ⟨v :: l, by simp [h1], by simpa using h2, fun u hu => by cases hu with | head => exact ⟨g1, g3⟩ | tail _ hu => exact h3 u hu, ?_⟩
    have h5 := g5 w hH
    have hx := g2 g3
    subst hx
    have hp : ∃ b off, sget S p = .ptr b off := by
      unfold loadVC at h
      split at h
      · rename_i b off e; exact ⟨b, off, by first | rfl | assumption⟩
      · exact h.elim
    obtain ⟨b, off, hb⟩ := hp
    rw [hb] at h5 hd
    have h6 : (loadVar t ⟨B b, off, none⟩).run P w = .ok (v.den B) w := by
      simp only [SV.den, Instr.loadAt, Instr.sureAddr, Sem.run_bind, Sem.run_pure, Result.andThen_ok] at h5
      generalize (loadVar t ⟨B b, off, none⟩).run P w = rr at h5
      cases rr with
      | ok y w1 => simp only [Result.andThen_ok] at h5; cases h5; rfl
      | halt y w1 => simp only [Result.andThen_halt] at h5; cases h5
    simp only [List.mapM_cons, Sem.run_bind]
    have : (resSem a.tmps (.cell p t)).run P w = .ok (v.den B) w := by
      unfold resSem
      simp only [hd, SV.den, Sem.run_bind, asAddr, Sem.run_pure, Result.andThen_ok, h6]
    rw [this]
    simp only [Result.andThen_ok, h4, Sem.run_pure, List.map_cons]

theorem den_packR (B : Nat → Nat) (l : List SV) : (packR l).den B = packV (l.map (SV.den B)) := by
  match l with
  | [] => rfl
  | [v] => rfl
  | v :: u :: r => simp [packR, packV, SV.den, denL_map]
theorem wf_packR {n : Nat} {l : List SV} (h : ∀ v ∈ l, v.wf n) : (packR l).wf n := by
  match l, h with
  | [], _ => simp [packR, SV.wf, wfL]
  | [v], h => exact h v (by simp)
  | v :: u :: r, h => simp only [packR, SV.wf]; exact (wfL_iff n _).2 h

/-- A function whose code is walked. -/
structure FnOK (P : Program) (f : FuncId) (fn : Func) (c : Code) (sx : List Nat) (hr : List (Nat × RM)) : Prop where
  get : P.funcs[f]? = some fn
  body : fn.body = some c
  ok : codeOK sx hr fn.ntmps c = true
  name : (fn.name == "runtime.NumGoroutine") = false
theorem FnOK.ent {f : FuncId} {fn : Func} {c : Code} {sx : List Nat} {hr : List (Nat × RM)} (h : FnOK P f fn c sx hr) : Entd P f := entd_mk h.get h.name (by rw [h.body]; rfl)

theorem run_of_vc {X : Cx} {f : FuncId} {fn : Func} {c : Code} (hf : FnOK X.P f fn c X.sx X.hr) (hX : CxOK X) {p n0 : Nat} {args : List SV} {H0 : Heap} {κ : K1} (hN : args.length ≤ fn.ntmps) (hwa : wfL n0 args) (hwH : hwf n0 H0) (hp : p ≤ n0)
    (h : codeVC X p c (argS 0 args) H0 n0 (retK X.τ fn.results.toList κ)) (B : Nat → Nat) (M : Nat → Prop) (w : World) (hH : HR B H0 w) (hown : Own M X.m B H0) (hM : ∀ i, w.heap.size ≤ i → M i) :
    Calls X.P f (denL B args).toArray w fun e w' => ∃ v H' n' B', e = .returned (v.den B') ∧ κ v H' n' ∧ v.wf n' ∧ hwf n' H' ∧ HR B' H' w' ∧ Own M X.m B' H' ∧ Kept M w w' ∧ (∀ k, k < p → B' k = B k) ∧ p ≤ n' := by
  refine calls_of_wp hf.get hf.body ?_
  have hlen : (denL B args).toArray.size = args.length := by simp
  have hg : Gs X fn.ntmps p M (argS 0 args) H0 n0 B { tmps := (denL B args).toArray ++ Array.replicate (fn.ntmps - (denL B args).toArray.size) undef, defers := [] } w := by
    refine ⟨⟨by simp; omega, rfl, fun t v hl hk => ?_⟩, fun t v hl => ?_, hH, hwH, hown, hM, hp⟩
    · rw [argS_lookup] at hl
      simp at hl
      have ht : t < args.length := (List.getElem?_eq_some_iff.1 hl).1
      rw [Array.getElem?_append_left (by simpa using ht)]
      simp [denL_map, hl]
    · rw [argS_lookup] at hl
      simp at hl
      exact (wfL_iff n0 args).1 hwa v (List.mem_of_getElem? hl)
  refine code_sound hX c _ H0 n0 B _ w _ _ hf.ok hg h fun e S' H' n' B' a' w' k g r => ?_
  have fin : resVC X.τ S' H' n' κ fn.results.toList [] → a'.defers = [] ∧ ∃ v, (results fn a'.tmps).run X.P w' = .ok v w' ∧ ∃ u H'' n'' B'', Ending.returned v = .returned (u.den B'') ∧ κ u H'' n'' ∧ u.wf n'' ∧ hwf n'' H'' ∧ HR B'' H'' w' ∧ Own M X.m B'' H'' ∧ Kept M w w' ∧ (∀ k, k < p → B'' k = B k) ∧ p ≤ n'' := by
    intro k
    obtain ⟨l, h1, h2, h3, h4⟩ := res_sound (P := X.P) hX.τ g.sr g.swf g.hr g.hwf _ [] k (by simp)
    have := results_run (fn := fn) h4 (by simpa using h1)
    refine ⟨g.sr.df, _, this, packR l, H', n', B', ?_, by simpa using h2, wf_packR fun v hv => (h3 v hv).1, g.hwf, g.hr, g.own, r.kept, r.ag, g.p⟩
    rw [den_packR]
  cases e with
  | normal => exact fin k
  | ret => exact fin k
  | exit id => exact k.elim

theorem hwf_nil (n : Nat) : hwf n [] := fun k o h => by cases h
theorem own_ge {m n0 : Nat} {B : Nat → Nat} {H : Heap} (hw : hwf n0 H) (hm : n0 ≤ m) : Own M m B H := fun k o hl _ hmk => by have := (hw k o hl).1; omega

/-- A function that only makes garbage: its value. -/
theorem pure_of_vc {X : Cx} {f : FuncId} {fn : Func} {c : Code} (hf : FnOK X.P f fn c X.sx X.hr) (hX : CxOK X) {n0 : Nat} {args : List SV} {H0 : Heap} {r : SV} (hN : args.length ≤ fn.ntmps) (hwa : wfL n0 args) (hwH : hwf n0 H0) (hm : n0 ≤ X.m) (hr : ∀ n, r.wf n)
    (h : codeVC X n0 c (argS 0 args) H0 n0 (retK X.τ fn.results.toList fun v _ _ => v = r)) : PureH X.P f args H0 r := by
  refine ⟨hf.ent, fun n _ _ => hr n, fun B w hH => ?_⟩
  have := run_of_vc hf hX hN hwa hwH (Nat.le_refl _) h B (fun i => w.heap.size ≤ i) w hH (own_ge hwH hm) (fun _ h => h)
  refine this.mono fun e w' h => ?_
  obtain ⟨v, H', n', B', rfl, rfl, _, _, _, _, hk, hag, _⟩ := h
  refine ⟨?_, hk.below fun i hi h => by omega⟩
  rw [SV.den_congr (n := n0) hag v (hr n0)]

/-- The same call in a larger heap, under other names. -/
theorem PureH.sub {f : FuncId} {args : List SV} {H0 H : Heap} {r : SV} (h : PureH P f args H0 r) (ρ : Nat → Nat) (hs : subHs ρ 0 H H0) (hi : injOn ρ (H0.map (·.1))) (hr : ∀ n, r.wf n) : PureH P f (renL ρ args) H r := by
  refine ⟨h.ent, fun n _ _ => hr n, fun B w hH => ?_⟩
  have := h.call (fun k => B (ρ k)) w ⟨fun k o hl hk => ?_, fun k j o o' g1 g2 g3 g4 he => ?_⟩
  · rw [denL_ren]
    refine this.mono fun e w' ⟨h1, h2⟩ => ⟨?_, h2⟩
    rw [h1, SV.den_congr (n := 0) (fun k hk => by omega) r (hr 0)]
  · obtain ⟨e1, _, _⟩ := hs k o hl
    have := hH.at_ _ _ e1 (by rw [SObj.live_ren]; exact hk)
    rw [SObj.sat_ren] at this
    exact this
  · obtain ⟨e1, _, m1⟩ := hs k o g1
    obtain ⟨e2, _, m2⟩ := hs j o' g3
    exact hi k m1 j m2 (hH.inj _ _ _ _ e1 (by rw [SObj.live_ren]; exact g2) e2 (by rw [SObj.live_ren]; exact g4) he)
theorem PureH.weaken {f : FuncId} {args : List SV} {H0 H : Heap} {r : SV} (h : PureH P f args H0 r) (hs : ∀ k o, hget H0 k = some o → hget H k = some o) (hr : ∀ n, r.wf n) : PureH P f args H r := by
  have := h.sub (H := H) (fun k => k) (fun k o hk => ⟨by rw [SObj.ren_id]; exact hs k o hk, fun h => h, mem_keys hk⟩) (fun _ _ _ _ h => h) hr
  rwa [renL_id] at this
theorem HR.nil (B : Nat → Nat) (w : World) : HR B [] w := ⟨fun k o hl => (nomatch hl), fun k j o o' hl => (nomatch hl)⟩
theorem PureH.any {f : FuncId} {args : List SV} {r : SV} (h : PureH P f args [] r) (H : Heap) : PureH P f args H r :=
  ⟨h.ent, fun n hw _ => h.wf n hw (hwf_nil n), fun B w _ => h.call B w (HR.nil B w)⟩
end
end Go.Proofs.Ytckcojgfgcjamaa
