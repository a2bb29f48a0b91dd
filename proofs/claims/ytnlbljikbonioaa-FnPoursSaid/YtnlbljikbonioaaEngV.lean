/- The engine: calls, regions, code, functions. -/
import Derived.Test.YtnlbljikbonioaaEngC
set_option maxRecDepth 100000
set_option linter.unusedSimpArgs false
set_option linter.unusedVariables false
namespace Go.Proofs.Ytnlbljikbonioaa
open Go Go.RowKit

section
variable {P : Program} {τ : Tys} {B : Nat → Nat} {M : Nat → Prop} {m : Nat} {H : Heap} {n : Nat} {κ : K1} {w : World}

theorem eff_sound {o : Oper} {S : Env} {N : Nat} {a : Act} (hτ : TysOK P τ) (hS : SR B N S a) (hwS : swf n S) (hH : HR B H w) (hwH : hwf n H) (hown : Own M m B H) (hM : M w.heap.size) (h : effVC P τ m o.op S H n κ) :
    EffRes P B M m n w (execOp a.eval o) κ := by
  unfold execOp
  cases ho : o.op <;> simp only [ho, effVC] at h ⊢ <;> (try exact h.elim)
  case alloc e =>
    obtain ⟨hk, hf, h⟩ := h
    obtain ⟨i, hi, _, _, hz⟩ := ty_info hτ hk
    have hkn : (τ e).z.known = true := knownOf fun e' => by rw [e'] at hf; cases hf
    have hz := hz hkn
    rw [den_flat hf (fun _ => 0) B] at hz
    refine new_sound hH hwH hown hM (wf_flat hf n) h ?_
    have hzv : (zeroValue e).run P w = .ok ((τ e).z.den B) w := by simp [zeroValue, typeInfo, hi, hz]
    simp only [Instr.alloc, newVar, Sem.run_bind, hzv, run_newRow', Result.andThen_ok, Sem.run_pure]
  case box e x =>
    have hk : (ev S x).known = true := knownOf fun e' => by rw [e'] at h; exact h
    refine new_sound hH hwH hown hM (ev_wf hwS x) h ?_
    rw [ev_den hS x hk]
    simp only [Instr.box, newVar, Sem.run_bind, run_newRow', Result.andThen_ok, Sem.run_pure]
  case store t x y =>
    have hk : (ev S x).known = true := knownOf fun e' => by rw [e'] at h; exact h
    have hk2 : (ev S y).known = true := knownOf fun e' => by
      rw [e'] at h
      unfold storeVC at h
      split at h
      · have h := h.2.2
        unfold storeB at h
        split at h
        · exact h
        · exact h
        · cases h.1
        · exact h
      · exact h
    rw [ev_den hS x hk, ev_den hS y hk2]
    exact store_sound hτ hH hwH hown (ev_wf hwS y) h
  case buildSlice t len parts =>
    have hk : ∀ q ∈ (parts.toList.map fun p => (p.1, ev S p.2)), q.2.known = true := by
      unfold buildSliceVC at h
      split at h
      · have h := h.2.2.2.2
        split at h
        · rename_i hL; exact fillI_known _ _ _ hL
        · exact h.elim
      · exact h.elim
    have he : (parts.map fun (x : Nat × Operand) => (x.1, a.eval x.2)) = ((parts.toList.map fun p => (p.1, ev S p.2)).map fun p => (p.1, p.2.den B)).toArray := by
      apply Array.ext'
      simp only [Array.toList_map, List.map_map]
      refine List.map_congr_left fun q hq => ?_
      have := hk (q.1, ev S q.2) (List.mem_map.2 ⟨q, hq, rfl⟩)
      simp [ev_den hS q.2 this]
    have := buildSlice_sound (P := P) (M := M) (m := m) hτ hH hwH hown hM h
    rw [← he] at this
    exact this
  case makeSlice t l c => 
    have hk : (ev S l).known = true ∧ (ev S c).known = true := by
      unfold makeSliceVC at h
      split at h
      · rename_i e1 e2 e3; rw [e2, e3]; exact ⟨rfl, rfl⟩
      · exact h.elim
    rw [ev_den hS l hk.1, ev_den hS c hk.2]
    exact makeSlice_sound hτ hH hwH hown hM h
  case makeMap t r =>
    obtain ⟨hr, h⟩ := h
    refine makeMap_sound (fun x hx => ?_) hτ hH hwH hown hM h
    cases r with
    | none => cases hx
    | some y =>
      simp only [Option.map_some, Option.some.injEq] at hx
      subst hx
      unfold hintVC at hr
      simp only at hr
      split at hr
      · rename_i z hz
        have := ev_den hS y (by rw [hz]; rfl)
        rw [hz] at this
        exact ⟨z, this⟩
      · exact hr.elim
  case mapUpdate t x i v =>
    have hk : (ev S x).known = true ∧ (ev S i).known = true ∧ (ev S v).known = true := by
      unfold mapUpdateVC at h
      split at h
      · rename_i e1 e2 e3
        rw [e2, e3]
        refine ⟨rfl, rfl, ?_⟩
        have h := h.2
        unfold updB at h
        split at h
        · rename_i bv l _
          have h := h.2.2
          refine knownOf fun e' => ?_
          rw [e'] at h
          cases bv <;> exact h
        · exact h.elim
      · exact h.elim
    rw [ev_den hS x hk.1, ev_den hS i hk.2.1, ev_den hS v hk.2.2]
    exact mapUpdate_sound hτ hH hwH hown h
  case insert t x i v =>
    have hk : (ev S x).known = true ∧ (ev S i).known = true ∧ (ev S v).known = true := by
      unfold mapUpdateVC at h
      split at h
      · rename_i e1 e2 e3
        rw [e2, e3]
        refine ⟨rfl, rfl, ?_⟩
        have h := h.2
        unfold updB at h
        split at h
        · rename_i bv l _
          have h := h.2.2
          refine knownOf fun e' => ?_
          rw [e'] at h
          cases bv <;> exact h
        · exact h.elim
      · exact h.elim
    rw [ev_den hS x hk.1, ev_den hS i hk.2.1, ev_den hS v hk.2.2]
    exact mapUpdate_sound hτ hH hwH hown h
  case call c =>
    split at h
    · rename_i hb
      split at h
      · rename_i s x t u hl hts
        obtain ⟨rfl, h⟩ := h
        have hws : s.wf n := by
          have h1 : c.args.toList.map (ev S) = [s, x] := hl
          have : s ∈ c.args.toList.map (ev S) := by rw [h1]; simp
          obtain ⟨y, _, rfl⟩ := List.mem_map.1 this
          exact ev_wf hwS y
        have hkn : s.known = true ∧ x.known = true := by
          unfold appendVC at h
          split at h
          · have h := h.2.2.2
            cases hse : srcE x with
            | true =>
              rw [hse] at h
              refine ⟨?_, knownOf fun e' => by rw [e'] at hse; cases hse⟩
              have h' : keepVC s H n κ := h
              exact knownOf fun e' => by rw [e'] at h'; exact h'
            | false =>
            rw [hse] at h
            simp only at h
            have hsrc : ∀ es κ', srcVC es x H κ' → x.known = true := fun es κ' h' => knownOf fun e' => by rw [e'] at h'; exact h'
            split at h
            · exact ⟨rfl, hsrc _ _ h⟩
            · split at h
              · exact ⟨rfl, hsrc _ _ h.2.2.2.2⟩
              · exact h.elim
            · exact h.elim
          · exact h.elim
        have hk' : ∀ y ∈ c.args.toList, (ev S y).known = true := fun y hy => by
          have : ev S y ∈ [s, x] := by rw [← hl]; exact List.mem_map.2 ⟨y, hy, rfl⟩
          simp at this
          rcases this with h | h <;> rw [h]
          · exact hkn.1
          · exact hkn.2
        have hm : c.args.map a.eval = #[s.den B, x.den B] := by
          have := map_eval (B := B) hS hk'
          rw [hl] at this
          apply Array.ext'
          simpa using this
        have hts' : c.argTypes = #[t, t] := by apply Array.ext'; simpa using hts
        have := append_sound (P := P) (M := M) (m := m) (ty := o.type) hws hτ hH hwH hown hM h
        simp only [resolve, hb, hm]
        obtain ⟨v, H', n', B', xx, w', g1, g2, g3, g4, g5, g6, g7, g8, g9, g10⟩ := this
        refine ⟨v, H', n', B', xx, w', g1, g2, g3, g4, g5, g6, g7, g8, g9, ?_⟩
        rcases g10 with g10 | g10
        · refine .inl ?_
          simp only [Sem.run_bind] at g10
          simp [invoke, builtin, hts']
          exact g10
        · refine .inr ⟨?_, g10.2⟩
          have g10 := g10.1
          simp only [Sem.run_bind] at g10
          simp [invoke, builtin, hts']
          exact g10
      · exact h.elim
    · rename_i hb
      split at h
      · rename_i s t hl hts
        have hkn : s.known = true := knownOf fun e' => by
          rw [e'] at h
          unfold clearVC at h
          split at h
          · exact h.2.2.2
          · exact h
        have hk' : ∀ y ∈ c.args.toList, (ev S y).known = true := fun y hy => by
          have : ev S y ∈ [s] := by rw [← hl]; exact List.mem_map.2 ⟨y, hy, rfl⟩
          simp at this
          rw [this]; exact hkn
        have hm : c.args.map a.eval = #[s.den B] := by
          have := map_eval (B := B) hS hk'
          rw [hl] at this
          apply Array.ext'
          simpa using this
        have hts' : c.argTypes = #[t] := by apply Array.ext'; simpa using hts
        have := clear_sound (P := P) (M := M) (m := m) (ty := o.type) hτ hH hwH hown h
        simp only [resolve, hb, hm]
        obtain ⟨v, H', n', B', xx, w', g1, g2, g3, g4, g5, g6, g7, g8, g9, g10⟩ := this
        refine ⟨v, H', n', B', xx, w', g1, g2, g3, g4, g5, g6, g7, g8, g9, ?_⟩
        rcases g10 with g10 | g10
        · refine .inl ?_
          simp only [Sem.run_bind] at g10
          simp [invoke, builtin, hts']
          exact g10
        · refine .inr ⟨?_, g10.2⟩
          have g10 := g10.1
          simp only [Sem.run_bind] at g10
          simp [invoke, builtin, hts']
          exact g10
      · exact h.elim
    · exact h.elim
end

/-! Calls. -/

/-- A call of this function enters it. -/
def Entd (P : Program) (f : FuncId) : Prop := ∀ (args : Array Value) (w : World), (callFunc f args).run P w = .ok (.enter f args) w
theorem entd_mk {P : Program} {f : FuncId} {fn : Func} (hf : P.funcs[f]? = some fn) (hn : (fn.name == "runtime.NumGoroutine") = false) (hb : fn.body.isNone = false) : Entd P f := by
  intro args w
  simp only [callFunc, Sem.run_bind, run_program, hf, Result.andThen_ok, hn, hb, Bool.false_eq_true, if_false, Sem.run_pure]

/-- A call that reads at most the blocks of H, gives v, and changes nothing that was there. -/
structure PureH (P : Program) (f : FuncId) (args : List SV) (H : Heap) (v : SV) : Prop where
  ent : Entd P f
  wf : ∀ n, wfL n args → hwf n H → v.wf n
  call : ∀ B w, HR B H w → Calls P f (denL B args).toArray w fun e w' => e = .returned (v.den B) ∧ Bel w.heap.size w w'

structure GenOK (P : Program) (f : FuncId) (args : List SV) (H : Heap) (n m : Nat) (κ : K1) : Prop where
  ent : Entd P f
  call : ∀ B (M : Nat → Prop) w, HR B H w → hwf n H → wfL n args → Own M m B H → (∀ i, w.heap.size ≤ i → M i) → Calls P f (denL B args).toArray w fun e w' =>
    ∃ v H' n' B', e = .returned (v.den B') ∧ κ v H' n' ∧ n ≤ n' ∧ v.wf n' ∧ hwf n' H' ∧ (∀ k, k < n → B' k = B k) ∧ HR B' H' w' ∧ Own M m B' H' ∧ Kept M w w'

abbrev PTab := List (Nat × (List SV → Heap → Option (Prop × SV)))
abbrev GTab := List (Nat × (List SV → Heap → Nat → Nat → K1 → Prop))
def PTabOK (P : Program) (T : PTab) : Prop := ∀ q ∈ T, ∀ args H p v, q.2 args H = some (p, v) → p → PureH P q.1 args H v
def GTabOK (P : Program) (T : GTab) : Prop := ∀ q ∈ T, ∀ args H n m κ, q.2 args H n m κ → GenOK P q.1 args H n m κ
theorem PTabOK.nil {P : Program} : PTabOK P [] := fun _ h => by cases h
theorem PTabOK.cons {P : Program} {f : Nat} {F : List SV → Heap → Option (Prop × SV)} {T : PTab} (h : ∀ args H p v, F args H = some (p, v) → p → PureH P f args H v) (hT : PTabOK P T) : PTabOK P ((f, F) :: T) := by
  intro q hq
  cases hq with
  | head => exact h
  | tail _ hq => exact hT q hq
theorem GTabOK.nil {P : Program} : GTabOK P [] := fun _ h => by cases h
theorem GTabOK.cons {P : Program} {f : Nat} {F : List SV → Heap → Nat → Nat → K1 → Prop} {T : GTab} (h : ∀ args H n m κ, F args H n m κ → GenOK P f args H n m κ) (hT : GTabOK P T) : GTabOK P ((f, F) :: T) := by
  intro q hq
  cases hq with
  | head => exact h
  | tail _ hq => exact hT q hq

theorem lookup_mem {α : Type} {T : List (Nat × α)} {f : Nat} {F : α} (h : T.lookup f = some F) : (f, F) ∈ T := by
  induction T with
  | nil => cases h
  | cons q T ih =>
    obtain ⟨g, G⟩ := q
    rw [List.lookup_cons] at h
    by_cases hq : f = g
    · subst hq; simp at h; subst h; exact List.mem_cons_self ..
    · have : (f == g) = false := by simpa using hq
      rw [this] at h
      exact List.mem_cons_of_mem _ (ih h)

/-- Orders of a region: an operation that may come first does; where none may, all that are ready branch. -/
inductive OT where
  | done | one (k : Nat) (t : OT) | alt (k : Nat) (t r : OT) | stop
/-- Regions walked in a way of their own: stores into holes, or by a tree of orders. -/
inductive RM where
  | holes (ts : List Nat) | tree (t : OT)
/-- What a walk goes by: the types, the callees, whether sums must fit, from which name on blocks may be written. -/
structure Cx where
  P : Program
  τ : Tys
  Γp : PTab
  Γ : GTab
  nw : Bool
  mw : Bool
  m : Nat
  sx : List Nat
  hr : List (Nat × RM) := []
structure CxOK (X : Cx) : Prop where
  τ : TysOK X.P X.τ
  p : PTabOK X.P X.Γp
  g : GTabOK X.P X.Γ
  mixed : X.P.follows .mixedOrders = true

def resP (r : Option (Prop × SV)) (H : Heap) (n : Nat) (κ : K1) : Prop := match r with
  | some pv => pv.1 ∧ κ pv.2 H n
  | none => False
def callG (X : Cx) (g : Option (List SV → Heap → Nat → Nat → K1 → Prop)) (f : Nat) (args : List SV) (H : Heap) (n : Nat) (κ : K1) : Prop := match g with
  | some G => G args H n X.m κ
  | none => GenOK X.P f args H n X.m κ
def callPG (X : Cx) (q : Bool) (p : Option (List SV → Heap → Option (Prop × SV))) (f : Nat) (args : List SV) (H : Heap) (n : Nat) (κ : K1) : Prop := match p with
  | some F => resP (F args H) H n κ
  | none => q = false ∧ callG X (X.Γ.lookup f) f args H n κ
def callVC (X : Cx) (q : Bool) (f : SV) (args : List SV) (H : Heap) (n : Nat) (κ : K1) : Prop := match f with
  | .fn fid caps => callPG X q (X.Γp.lookup fid) fid (args ++ caps) H n κ
  | _ => False
def isEff : Op → Bool
  | .alloc _ => true
  | .box _ _ => true
  | .store _ _ _ => true
  | .buildSlice _ _ _ => true
  | .makeSlice _ _ _ => true
  | .makeMap _ _ => true
  | .mapUpdate _ _ _ _ => true
  | .insert _ _ _ _ => true
  | .call c => match c.callee with
    | .builtin .append => true
    | .builtin .clear => true
    | _ => false
  | _ => false
def isStore : Op → Bool
  | .store _ _ _ => true
  | _ => false
def calleeOf : Op → Option Operand
  | .call c => match c.callee with
    | .value f => some f
    | _ => none
  | _ => none
def argsOf : Op → List Operand
  | .call c => c.args.toList
  | _ => []
/-- Is this operand one of these functions? -/
def isIn : List Nat → Operand → Bool
  | [], _ => false
  | k :: l, .func f => if k = f then true else isIn l (.func f)
  | _ :: _, _ => false
def opB (X : Cx) (q : Bool) (c : Option Operand) (e : Bool) (op : Op) (S : Env) (H : Heap) (n : Nat) (κ : K1) : Prop := match c, e with
  | some f, _ => (argsOf op).all (fun x => (ev S x).known) = true ∧ callVC X (q && !isIn X.sx f) (ev S f) ((argsOf op).map (ev S)) H n κ
  | none, true => effVC X.P X.τ X.m op S H n κ
  | none, false => pureVC X.P X.τ X.nw X.mw op S H n κ
def opVC (X : Cx) (q : Bool) (op : Op) (S : Env) (H : Heap) (n : Nat) (κ : K1) : Prop := opB X q (calleeOf op) (isEff op) op S H n κ

abbrev KR := Env → Heap → Nat → Prop
/-- The operations of a region, one behind the other. -/
def opsVC (X : Cx) (q : Bool) (all : Array Oper) : List Oper → Env → Heap → Nat → KR → Prop
  | [], S, H, n, K => K S H n
  | o :: rest, S, H, n, K => match o.guard with
    | none => opVC X q o.op S H n fun v H' n' => opsVC X q all rest (sput S o.dst v) H' n' K
    | some (j, want) => match (all[j]?).bind (·.dst) with
      | some t => match sget S t with
        | .bool c => (c = want → opVC X q o.op ((t, .bool want) :: S) H n fun v H' n' => opsVC X q all rest (sput ((t, .bool want) :: S) o.dst v) H' n' K) ∧
            (c = !want → opsVC X q all rest (sput ((t, .bool (!want)) :: S) o.dst .und) H n K)
        | .und => opsVC X q all rest (sput S o.dst .und) H n K
        | _ => False
      | none => False
def restK (X : Cx) (q : Bool) (all : Array Oper) (rest : List Oper) (S : Env) (d : Option Tmp) (K : KR) : K1 := fun v H n => opsVC X q all rest (sput S d v) H n K


section
variable {X : Cx} {B : Nat → Nat} {M : Nat → Prop} {H : Heap} {n : Nat} {κ : K1} {w : World} {S : Env} {N : Nat} {a : Act}

/-- What is known behind an operation. -/
structure Aft (B : Nat → Nat) (M : Nat → Prop) (m n : Nat) (w : World) (v : SV) (H' : Heap) (n' : Nat) (B' : Nat → Nat) (w' : World) : Prop where
  le : n ≤ n'
  wf : v.wf n'
  hwf : hwf n' H'
  ag : ∀ k, k < n → B' k = B k
  hr : HR B' H' w'
  own : Own M m B' H'
  kept : Kept M w w'

theorem callee_spec {o : Oper} {f : Operand} (h : calleeOf o.op = some f) : ∃ c : Call, o.op = .call c ∧ c.callee = .value f ∧ argsOf o.op = c.args.toList := by
  unfold calleeOf at h
  split at h
  · rename_i c hc
    split at h
    · rename_i g hg
      cases h
      exact ⟨c, hc, hg, by rw [hc]; rfl⟩
    · cases h
  · cases h

theorem run_call {o : Oper} {c : Call} {f : Operand} {fid : Nat} {caps : List SV} (hS : SR B N S a) (ho : o.op = .call c) (hc : c.callee = .value f) (hf : ev S f = .fn fid caps) (hk : ∀ x ∈ c.args.toList, (ev S x).known = true) (he : Entd X.P fid) (w : World) :
    (execOp a.eval o).run X.P w = .ok (.enter fid (denL B (c.args.toList.map (ev S) ++ caps)).toArray) w := by
  have h1 := ev_den hS f (by rw [hf]; rfl)
  rw [hf] at h1
  have h2 : c.args.map a.eval = (denL B (c.args.toList.map (ev S))).toArray := by
    rw [denL_map, ← map_eval hS hk]; apply Array.ext'; simp
  have h3 : (denL B (c.args.toList.map (ev S)) ++ denL B caps) = denL B (c.args.toList.map (ev S) ++ caps) := by simp [denL_map]
  have h4 := he (denL B (c.args.toList.map (ev S) ++ caps)).toArray w
  unfold execOp
  simp only [ho, resolve, hc, h1, SV.den, Deferred.ofValue, Sem.run_bind, Sem.run_pure, Result.andThen_ok, invoke, h2]
  simp only [List.append_toArray, List.nil_append, h3]
  exact h4

theorem upon_returned {P : Program} {o : Oper} {a : Act} {K : Act → World → Prop} {Q : Exit → Act → World → Prop} {f : FuncId} {args : Array Value} {w : World} {R : Ending → World → Prop}
    (hrun : (execOp a.eval o).run P w = .ok (.enter f args) w) (hc : Calls P f args w R) (hR : ∀ e w', R e w' → ∃ x, e = .returned x ∧ K (a.put o.dst x) w') : o.wp P a w K Q := by
  unfold Oper.wp
  rw [hrun]
  simp only [Oper.upon]
  exact hc.mono fun e w' h => by
    obtain ⟨x, rfl, hk⟩ := hR e w' h
    exact hk

theorem op_sound {o : Oper} (hX : CxOK X) (hS : SR B N S a) (hwS : swf n S) (hH : HR B H w) (hwH : hwf n H) (hown : Own M X.m B H) (hM : ∀ i, w.heap.size ≤ i → M i) {q : Bool} (h : opVC X q o.op S H n κ)
    {K : Act → World → Prop} {Q : Exit → Act → World → Prop} (hK : ∀ v H' n' B' w' x, κ v H' n' → Aft B M X.m n w v H' n' B' w' → (v.known = true → x = v.den B') → K (a.put o.dst x) w') : o.wp X.P a w K Q := by
  unfold opVC at h
  generalize hc : calleeOf o.op = cl at h
  cases cl with
  | some f =>
    obtain ⟨c, ho, hcl, hargs⟩ := callee_spec hc
    simp only [opB] at h
    obtain ⟨hk, h⟩ := h
    rw [hargs] at hk h
    have hk' : ∀ x ∈ c.args.toList, (ev S x).known = true := fun x hx => List.all_eq_true.1 hk x hx
    unfold callVC at h
    split at h
    · rename_i fid caps hf
      have hwa : wfL n (c.args.toList.map (ev S) ++ caps) := by
        rw [wfL_iff]
        intro v hv
        rcases List.mem_append.1 hv with hv | hv
        · obtain ⟨x, _, rfl⟩ := List.mem_map.1 hv; exact ev_wf hwS x
        · have := ev_wf hwS f
          rw [hf] at this
          exact (wfL_iff n caps).1 (by simpa [SV.wf] using this) v hv
      unfold callPG at h
      have gen : GenOK X.P fid (c.args.toList.map (ev S) ++ caps) H n X.m κ → o.wp X.P a w K Q := fun g => by
        refine upon_returned (run_call hS ho hcl hf hk' g.ent w) (g.call B M w hH hwH hwa hown hM) fun e w' h => ?_
        obtain ⟨v, H', n', B', rfl, g1, g2, g3, g4, g5, g6, g7, g8⟩ := h
        exact ⟨_, rfl, hK v H' n' B' w' _ g1 ⟨g2, g3, g4, g5, g6, g7, g8⟩ fun _ => rfl⟩
      split at h
      · rename_i F hF
        unfold resP at h
        split at h
        · rename_i pv hpv
          have hmem : (fid, F) ∈ X.Γp := lookup_mem hF
          have g := hX.p _ hmem _ H pv.1 pv.2 hpv h.1
          refine upon_returned (run_call hS ho hcl hf hk' g.ent w) (g.call B w hH) fun e w' h' => ?_
          obtain ⟨rfl, hb⟩ := h'
          exact ⟨_, rfl, hK _ H n B w' _ h.2 ⟨Nat.le_refl _, g.wf n hwa hwH, hwH, fun _ _ => rfl, hH.of_below hb, hown, Kept.of_below hb⟩ fun _ => rfl⟩
        · exact h.elim
      · obtain ⟨_, h⟩ := h
        unfold callG at h
        split at h
        · rename_i G hG
          exact gen (hX.g _ (lookup_mem hG) _ _ _ _ _ h)
        · exact gen h
    · exact h.elim
  | none =>
    cases he : isEff o.op with
    | true =>
      rw [he] at h
      simp only [opB] at h
      obtain ⟨v, H', n', B', x, w', g1, g2, g3, g4, g5, g6, g7, g8, g9, g10⟩ := eff_sound (M := M) hX.τ hS hwS hH hwH hown (hM _ (Nat.le_refl _)) h
      have := hK v H' n' B' w' x g1 ⟨g2, g3, g4, g5, g6, g8, g7⟩ g9
      unfold Oper.wp
      rcases g10 with g10 | ⟨g10, rfl⟩ <;> rw [g10] <;> exact this
    | false =>
      rw [he] at h
      simp only [opB] at h
      obtain ⟨v, x, g1, g2, g3, g4⟩ := pure_sound (B := B) hX.τ hS hwS hwH h
      have := hK v H n B w x g3 ⟨Nat.le_refl _, g1, hwH, fun _ _ => rfl, hH, hown, Kept.refl _ _⟩ g2
      unfold Oper.wp
      rw [g4 w hH]
      exact this

/-- The state of a walk. -/
structure Gs (X : Cx) (N p : Nat) (M : Nat → Prop) (S : Env) (H : Heap) (n : Nat) (B : Nat → Nat) (a : Act) (w : World) : Prop where
  sr : SR B N S a
  swf : swf n S
  hr : HR B H w
  hwf : hwf n H
  own : Own M X.m B H
  new : ∀ i, w.heap.size ≤ i → M i
  p : p ≤ n
structure Rel (p : Nat) (M : Nat → Prop) (B : Nat → Nat) (w : World) (B' : Nat → Nat) (w' : World) : Prop where
  ag : ∀ k, k < p → B' k = B k
  kept : Kept M w w'
theorem Rel.refl (p : Nat) (M : Nat → Prop) (B : Nat → Nat) (w : World) : Rel p M B w B w := ⟨fun _ _ => rfl, Kept.refl _ _⟩
theorem Rel.trans {p : Nat} {M : Nat → Prop} {B B' B'' : Nat → Nat} {w w' w'' : World} (h : Rel p M B w B' w') (k : Rel p M B' w' B'' w'') : Rel p M B w B'' w'' :=
  ⟨fun i hi => (k.ag i hi).trans (h.ag i hi), h.kept.trans k.kept⟩

def dstsOK (N : Nat) (l : List Oper) : Bool := l.all fun o => match o.dst with | some t => Nat.blt t N | none => true
theorem dstsOK_head {N : Nat} {o : Oper} {l : List Oper} (h : dstsOK N (o :: l) = true) : ∀ t, o.dst = some t → t < N := by
  intro t ht
  simp only [dstsOK, List.all_cons, Bool.and_eq_true] at h
  have := h.1
  rw [ht] at this
  simpa using this
theorem dstsOK_mem {N : Nat} {ops : Array Oper} (h : dstsOK N ops.toList = true) {k : Nat} {o : Oper} (ho : ops[k]? = some o) : dstsOK N [o] = true := by
  have hm : o ∈ ops.toList := List.mem_of_getElem? (by simpa using ho)
  have := List.all_eq_true.1 h o hm
  simp only [dstsOK, List.all_cons, List.all_nil, Bool.and_true]
  exact this
theorem dstsOK_tail {N : Nat} {o : Oper} {l : List Oper} (h : dstsOK N (o :: l) = true) : dstsOK N l = true := by
  simp only [dstsOK, List.all_cons, Bool.and_eq_true] at h
  exact h.2

theorem Gs.put {p : Nat} {v : SV} {H' : Heap} {n' : Nat} {B' : Nat → Nat} {w' : World} {x : Value} (h : Gs X N p M S H n B a w) (d : Option Tmp) (hd : ∀ t, d = some t → t < N) (ha : Aft B M X.m n w v H' n' B' w') (hx : v.known = true → x = v.den B') :
    Gs X N p M (sput S d v) H' n' B' (a.put d x) w' ∧ Rel p M B w B' w' :=
  ⟨⟨(h.sr.congr h.swf ha.ag).put d v x hd hx, swf_put (swf_mono ha.le h.swf) d ha.wf, ha.hr, ha.hwf, ha.own, fun i hi => h.new i (Nat.le_trans ha.kept.size hi), Nat.le_trans h.p ha.le⟩,
   ⟨fun k hk => ha.ag k (Nat.lt_of_lt_of_le hk h.p), ha.kept⟩⟩
theorem Gs.skip {p : Nat} (h : Gs X N p M S H n B a w) (d : Option Tmp) (hd : ∀ t, d = some t → t < N) : Gs X N p M (sput S d .und) H n B (a.put d undef) w :=
  ⟨h.sr.put d .und undef hd fun _ => rfl, swf_put h.swf d trivial, h.hr, h.hwf, h.own, h.new, h.p⟩
theorem Gs.know {p t : Nat} {c : Bool} (h : Gs X N p M S H n B a w) (hc : sget S t = .bool c) : Gs X N p M ((t, .bool c) :: S) H n B a w := by
  refine ⟨⟨h.sr.size, h.sr.df, fun t' v hl hk => ?_⟩, fun t' v hl => ?_, h.hr, h.hwf, h.own, h.new, h.p⟩
  · rw [List.lookup_cons] at hl
    by_cases ht : t' = t
    · subst ht
      simp at hl
      subst hl
      unfold sget at hc
      cases hq : S.lookup t' with
      | none => rw [hq] at hc; cases hc
      | some u =>
        rw [hq] at hc
        simp at hc
        subst hc
        exact h.sr.at_ t' _ hq rfl
    · have : (t' == t) = false := by simpa using ht
      rw [this] at hl
      exact h.sr.at_ t' v hl hk
  · rw [List.lookup_cons] at hl
    by_cases ht : t' = t
    · subst ht; simp at hl; subst hl; trivial
    · have : (t' == t) = false := by simpa using ht
      rw [this] at hl
      exact h.swf t' v hl
theorem Gs.slot {p t : Nat} {v : SV} (h : Gs X N p M S H n B a w) (hc : sget S t = v) (hk : v.known = true) : a.tmps[t]? = some (v.den B) := by
  unfold sget at hc
  cases hq : S.lookup t with
  | none => rw [hq] at hc; simp at hc; subst hc; cases hk
  | some u => rw [hq] at hc; simp at hc; subst hc; exact h.sr.at_ t _ hq hk

theorem ops_sound {p : Nat} (hX : CxOK X) (all : Array Oper) {q : Bool} {Q : Exit → Act → World → Prop} {K : KR} :
    ∀ (rest : List Oper) (S : Env) (H : Heap) (n : Nat) (B : Nat → Nat) (a : Act) (w : World), dstsOK N rest = true → Gs X N p M S H n B a w → opsVC X q all rest S H n K →
      (∀ S' H' n' B' a' w', K S' H' n' → Gs X N p M S' H' n' B' a' w' → Rel p M B w B' w' → Q .normal a' w') → wpList X.P all Q rest a w
  | [], S, H, n, B, a, w, _, hg, h, hK => hK S H n B a w h hg (Rel.refl _ _ _ _)
  | o :: rest, S, H, n, B, a, w, hd, hg, h, hK => by
    have hd1 := dstsOK_head hd
    have hd2 := dstsOK_tail hd
    have run : ∀ S, Gs X N p M S H n B a w → (opVC X q o.op S H n fun v H' n' => opsVC X q all rest (sput S o.dst v) H' n' K) → o.wp X.P a w (wpList X.P all Q rest) Q := by
      intro S hg h
      refine op_sound hX hg.sr hg.swf hg.hr hg.hwf hg.own hg.new h fun v H' n' B' w' x hκ ha hx => ?_
      obtain ⟨hg', hr⟩ := hg.put o.dst hd1 ha hx
      exact ops_sound hX all rest _ H' n' B' _ w' hd2 hg' hκ fun S'' H'' n'' B'' a'' w'' k g r => hK S'' H'' n'' B'' a'' w'' k g (hr.trans r)
    have skip : ∀ S, Gs X N p M S H n B a w → opsVC X q all rest (sput S o.dst .und) H n K → wpList X.P all Q rest (a.put o.dst undef) w := by
      intro S hg h
      exact ops_sound hX all rest _ H n B _ w hd2 (hg.skip o.dst hd1) h hK
    unfold wpList
    unfold opsVC at h
    split at h
    · rename_i hgd
      rw [if_pos (by simp [Region.wanted, hgd])]
      exact .inl (run S hg h)
    · rename_i j want hgd
      split at h
      · rename_i t ht
        split at h
        · rename_i c hc
          have hk := hg.know hc
          have hslot := hg.slot hc rfl
          have hy : yielded all a.tmps j = some c := by simp [yielded, ht, hslot, SV.den]
          by_cases hcw : c = want
          · subst hcw
            rw [if_pos (by simp [Region.wanted, hgd, hy])]
            exact .inl (run _ hk (h.1 rfl))
          · have hcn : c = !want := by cases c <;> cases want <;> simp_all
            subst hcn
            rw [if_neg (by simp [Region.wanted, hgd, hy])]
            exact skip _ hk (h.2 rfl)
        · rename_i hc
          have hslot := hg.slot hc rfl
          have hy : yielded all a.tmps j = none := by simp [yielded, ht, hslot, SV.den]; rfl
          rw [if_neg (by simp [Region.wanted, hgd, hy])]
          exact skip _ hg h
        · exact h.elim
      · exact h.elim

end
end Go.Proofs.Ytnlbljikbonioaa
