/- The engine: the equations by which simp carries a walk out. -/
import Derived.Test.YtnlbljikbonioaaEngF
set_option maxRecDepth 100000
set_option linter.unusedSimpArgs false
set_option linter.unusedVariables false
namespace Go.Proofs.Ytnlbljikbonioaa
open Go Go.RowKit

/-- A test: what follows is kept closed until it is decided. -/
def bSplit (c : Bool) (A B : Unit → Prop) : Prop := (c = true → A ()) ∧ (c = false → B ())
theorem bs_true (A B : Unit → Prop) : bSplit true A B = A () := by simp [bSplit]
theorem bs_false (A B : Unit → Prop) : bSplit false A B = B () := by simp [bSplit]
theorem bs_not (c : Bool) (A B : Unit → Prop) : bSplit (!c) A B = bSplit c B A := by cases c <;> simp [bSplit]
theorem bs_dec (p : Prop) [Decidable p] (A B : Unit → Prop) : bSplit (decide p) A B = ((p → A ()) ∧ (¬ p → B ())) := by simp [bSplit]
theorem bs_sym (c : Bool) (A B : Unit → Prop) : bSplit c A B = ((c = true → A ()) ∧ (c = false → B ())) := rfl

def codeU (X : Cx) (p : Nat) (c : Code) (S : Env) (H : Heap) (n : Nat) (K : KE) : Unit → Prop := fun _ => codeVC X p c S H n K
theorem codeU_eq (X : Cx) (p : Nat) (c : Code) (S : Env) (H : Heap) (n : Nat) (K : KE) : codeU X p c S H n K () = codeVC X p c S H n K := rfl
theorem cv_skip (X : Cx) (p : Nat) (S : Env) (H : Heap) (n : Nat) (K : KE) : codeVC X p .skip S H n K = K .normal S H n := rfl
theorem cv_region (X : Cx) (p id : Nat) (l : List Oper) (draw : Bool) (S : Env) (H : Heap) (n : Nat) (K : KE) : codeVC X p (.region id l.toArray draw) S H n K = regB X p (X.hr.lookup id) draw l.toArray l S H n K := rfl
theorem regB_none (X : Cx) (p : Nat) (draw : Bool) (ops : Array Oper) (l : List Oper) (S : Env) (H : Heap) (n : Nat) (K : KE) : regB X p none draw ops l S H n K = opsVC X draw ops l S H n (normK K) := rfl
def endK (X : Cx) (ops : Array Oper) (l : List Oper) (S : Env) (n : Nat) (K : KE) : Heap → Prop := fun H' => opsVH X ops l S H' n (normK K)
theorem endK_eq (X : Cx) (ops : Array Oper) (l : List Oper) (S : Env) (n : Nat) (K : KE) (H' : Heap) : endK X ops l S n K H' = opsVH X ops l S H' n (normK K) := rfl
theorem regB_some (X : Cx) (p : Nat) (ts : List Nat) (draw : Bool) (ops : Array Oper) (l : List Oper) (S : Env) (H : Heap) (n : Nat) (K : KE) : regB X p (some (.holes ts)) draw ops l S H n K = (draw = true ∧ startH ts S H (endK X ops l S n K)) := rfl
/-- A region walked by a tree: what it comes to is told by hand. -/
def joinVC (X : Cx) (p : Nat) (T : OT) (l : List Oper) (S : Env) (H : Heap) (n : Nat) (K : KE) : Prop := ∃ (ι : Type) (S' : ι → Env) (H' : ι → Heap) (n' : ι → Nat), treeVC X l.toArray T S H n (joinK p X.m S' H' n') ∧ ∀ i, K .normal (S' i) (H' i) (n' i)
theorem regB_tree (X : Cx) (p : Nat) (T : OT) (l : List Oper) (S : Env) (H : Heap) (n : Nat) (K : KE) : regB X p (some (.tree T)) true l.toArray l S H n K = joinVC X p T l S H n K := by simp [regB, joinVC]
theorem jk {ι : Type} (p m : Nat) (S : ι → Env) (H : ι → Heap) (n : ι → Nat) (S' H' n') : joinK p m S H n S' H' n' = ∃ i, Sub p m S' H' (S i) (H i) (n i) := rfl
def treeK (X : Cx) (all : Array Oper) (T : OT) (K : KR) : KR := fun S' H' n' => treeVC X all T S' H' n' K
theorem treeK_eq (X : Cx) (all : Array Oper) (T : OT) (K : KR) (S' H' n') : treeK X all T K S' H' n' = treeVC X all T S' H' n' K := rfl
theorem tv_done (X : Cx) (all : Array Oper) (S : Env) (H : Heap) (n : Nat) (K : KR) : treeVC X all .done S H n K = K S H n := rfl
theorem tv_stop (X : Cx) (all : Array Oper) (S : Env) (H : Heap) (n : Nat) (K : KR) : treeVC X all .stop S H n K = True := rfl
def opAt (X : Cx) (all : Array Oper) (o : Option Oper) (S : Env) (H : Heap) (n : Nat) (K : KR) : Prop := match o with
  | some o => opsVC X true all [o] S H n K
  | none => False
theorem opAt_some (X : Cx) (all : Array Oper) (o : Oper) (S : Env) (H : Heap) (n : Nat) (K : KR) : opAt X all (some o) S H n K = opsVC X true all [o] S H n K := rfl
theorem tv_one (X : Cx) (l : List Oper) (k : Nat) (t : OT) (S : Env) (H : Heap) (n : Nat) (K : KR) : treeVC X l.toArray (.one k t) S H n K = opAt X l.toArray l[k]? S H n (treeK X l.toArray t K) := by
  conv => lhs; unfold treeVC
  rw [List.getElem?_toArray]; unfold opAt treeK; rfl
theorem tv_alt (X : Cx) (l : List Oper) (k : Nat) (t r : OT) (S : Env) (H : Heap) (n : Nat) (K : KR) : treeVC X l.toArray (.alt k t r) S H n K = (opAt X l.toArray l[k]? S H n (treeK X l.toArray t K) ∧ treeVC X l.toArray r S H n K) := by
  conv => lhs; unfold treeVC
  rw [List.getElem?_toArray]; unfold opAt treeK; rfl
theorem o_insert (X : Cx) (q : Bool) (S : Env) (H : Heap) (n : Nat) (κ : K1) (t : TypeId) (x i v : Operand) : opVC X q (.insert t x i v) S H n κ = mapUpdateVC X.P X.m (X.τ t) (ev S x) (ev S i) (ev S v) H n κ := rfl
theorem cv_seq (X : Cx) (p : Nat) (a b : Code) (S : Env) (H : Heap) (n : Nat) (K : KE) : codeVC X p (.seq a b) S H n K = codeVC X p a S H n (seqK (codeVC X p b) K) := rfl
def condB (X : Cx) (p : Nat) (v : SV) (x y : Code) (S : Env) (H : Heap) (n : Nat) (K : KE) : Prop := match v with
  | .bool b => bSplit b (codeU X p x S H n K) (codeU X p y S H n K)
  | _ => False
theorem condB_bool (X : Cx) (p : Nat) (b : Bool) (x y : Code) (S : Env) (H : Heap) (n : Nat) (K : KE) : condB X p (.bool b) x y S H n K = bSplit b (codeU X p x S H n K) (codeU X p y S H n K) := rfl
theorem cv_cond (X : Cx) (p : Nat) (c : Operand) (x y : Code) (S : Env) (H : Heap) (n : Nat) (K : KE) : codeVC X p (.cond c x y) S H n K = condB X p (ev S c) x y S H n K := by
  conv => lhs; unfold codeVC
  unfold condB
  cases ev S c <;> rfl
theorem cv_block (X : Cx) (p id : Nat) (c : Code) (S : Env) (H : Heap) (n : Nat) (K : KE) : codeVC X p (.block id c) S H n K = codeVC X p c S H n (blockK id K) := rfl
theorem cv_exit (X : Cx) (p id : Nat) (S : Env) (H : Heap) (n : Nat) (K : KE) : codeVC X p (.exit id) S H n K = K (.exit id) S H n := rfl
theorem cv_ret (X : Cx) (p : Nat) (S : Env) (H : Heap) (n : Nat) (K : KE) : codeVC X p .ret S H n K = K .ret S H n := rfl
theorem loop_introN {X : Cx} {p : Nat} {c : Code} {S : Env} {H : Heap} {n : Nat} {K : KE} {ι : Type} (Sι : ι → Env) (Hι : ι → Heap) (nι : ι → Nat) (φ : ι → Prop) (μ : ι → Nat)
    (h0 : ∃ j, φ j ∧ Sub p X.m S H (Sι j) (Hι j) (nι j)) (h : ∀ i, φ i → codeVC X p c (Sι i) (Hι i) (nι i) (loopK p X.m Sι Hι nι φ μ i K)) : codeVC X p (.loop c) S H n K := ⟨ι, Sι, Hι, nι, φ, μ, h0, h⟩
theorem loop_intro {X : Cx} {p : Nat} {c : Code} {S : Env} {H : Heap} {n : Nat} {K : KE} {ι : Type} (Sι : ι → Env) (Hι : ι → Heap) (nι : Nat) (φ : ι → Prop) (μ : ι → Nat)
    (h0 : ∃ j, φ j ∧ Sub p X.m S H (Sι j) (Hι j) nι) (h : ∀ i, φ i → codeVC X p c (Sι i) (Hι i) nι (loopK p X.m Sι Hι (fun _ => nι) φ μ i K)) : codeVC X p (.loop c) S H n K := ⟨ι, Sι, Hι, fun _ => nι, φ, μ, h0, h⟩
theorem sk_normal (f : Env → Heap → Nat → KE → Prop) (K : KE) (S : Env) (H : Heap) (n : Nat) : seqK f K .normal S H n = f S H n K := rfl
theorem sk_exit (f : Env → Heap → Nat → KE → Prop) (K : KE) (id : Nat) (S : Env) (H : Heap) (n : Nat) : seqK f K (.exit id) S H n = K (.exit id) S H n := rfl
theorem sk_ret (f : Env → Heap → Nat → KE → Prop) (K : KE) (S : Env) (H : Heap) (n : Nat) : seqK f K .ret S H n = K .ret S H n := rfl
theorem bk_normal (id : Nat) (K : KE) (S : Env) (H : Heap) (n : Nat) : blockK id K .normal S H n = K .normal S H n := rfl
theorem bk_exit (id id' : Nat) (K : KE) (S : Env) (H : Heap) (n : Nat) : blockK id K (.exit id') S H n = if id' = id then K .normal S H n else K (.exit id') S H n := rfl
theorem bk_ret (id : Nat) (K : KE) (S : Env) (H : Heap) (n : Nat) : blockK id K .ret S H n = K .ret S H n := rfl
theorem nk (K : KE) (S : Env) (H : Heap) (n : Nat) : normK K S H n = K .normal S H n := rfl
theorem lk_exit {ι : Type} (p m : Nat) (Sι : ι → Env) (Hι : ι → Heap) (nι : ι → Nat) (φ : ι → Prop) (μ : ι → Nat) (i : ι) (K : KE) (id : Nat) (S : Env) (H : Heap) (n : Nat) : loopK p m Sι Hι nι φ μ i K (.exit id) S H n = K (.exit id) S H n := rfl
theorem lk_ret {ι : Type} (p m : Nat) (Sι : ι → Env) (Hι : ι → Heap) (nι : ι → Nat) (φ : ι → Prop) (μ : ι → Nat) (i : ι) (K : KE) (S : Env) (H : Heap) (n : Nat) : loopK p m Sι Hι nι φ μ i K .ret S H n = K .ret S H n := rfl
theorem lk_normal {ι : Type} (p m : Nat) (Sι : ι → Env) (Hι : ι → Heap) (nι : ι → Nat) (φ : ι → Prop) (μ : ι → Nat) (i : ι) (K : KE) (S : Env) (H : Heap) (n : Nat) : loopK p m Sι Hι nι φ μ i K .normal S H n = ∃ j, φ j ∧ μ j < μ i ∧ Sub p m S H (Sι j) (Hι j) (nι j) := rfl
theorem rk_normal (τ : Tys) (rs : List ResultVar) (κ : K1) (S : Env) (H : Heap) (n : Nat) : retK τ rs κ .normal S H n = resVC τ S H n κ rs [] := rfl
theorem rk_ret (τ : Tys) (rs : List ResultVar) (κ : K1) (S : Env) (H : Heap) (n : Nat) : retK τ rs κ .ret S H n = resVC τ S H n κ rs [] := rfl
theorem rv_nil (τ : Tys) (S : Env) (H : Heap) (n : Nat) (κ : K1) (acc : List SV) : resVC τ S H n κ [] acc = κ (packR acc.reverse) H n := rfl
theorem rv_tmp (τ : Tys) (S : Env) (H : Heap) (n : Nat) (κ : K1) (t : Tmp) (r : List ResultVar) (acc : List SV) : resVC τ S H n κ (.tmp t :: r) acc = ((sget S t).known = true ∧ resVC τ S H n κ r (sget S t :: acc)) := rfl
def rvK (τ : Tys) (S : Env) (H : Heap) (n : Nat) (κ : K1) (r : List ResultVar) (acc : List SV) : K1 := fun v _ _ => v.known = true ∧ resVC τ S H n κ r (v :: acc)
theorem rvK_eq (τ : Tys) (S : Env) (H : Heap) (n : Nat) (κ : K1) (r : List ResultVar) (acc : List SV) (v : SV) (H' : Heap) (n' : Nat) : rvK τ S H n κ r acc v H' n' = (v.known = true ∧ resVC τ S H n κ r (v :: acc)) := rfl
theorem rv_cell (τ : Tys) (S : Env) (H : Heap) (n : Nat) (κ : K1) (a t : Nat) (r : List ResultVar) (acc : List SV) : resVC τ S H n κ (.cell a t :: r) acc = loadVC (τ t) (sget S a) H n (rvK τ S H n κ r acc) := rfl

/-! Operations. -/
section
variable (X : Cx) (q : Bool) (all : Array Oper) (rest : List Oper) (S : Env) (H : Heap) (n : Nat) (K : KR) (κ : K1)
theorem ov_nil : opsVC X q all [] S H n K = K S H n := rfl
theorem ov_run (d : Option Tmp) (op : Op) (ty : TypeId) (pos : String) (af : Array Edge) : opsVC X q all (⟨d, op, ty, pos, af, none⟩ :: rest) S H n K = opVC X q op S H n (restK X q all rest S d K) := rfl
theorem rest_eq (d : Option Tmp) (v : SV) (H' : Heap) (n' : Nat) : restK X q all rest S d K v H' n' = opsVC X q all rest (sput S d v) H' n' K := rfl
def gdRun (op : Op) (d : Option Tmp) : Unit → Prop := fun _ => opVC X q op S H n (restK X q all rest S d K)
def gdSkip (d : Option Tmp) : Unit → Prop := fun _ => opsVC X q all rest (sput S d .und) H n K
theorem gdRun_eq (op : Op) (d : Option Tmp) : gdRun X q all rest S H n K op d () = opVC X q op S H n (restK X q all rest S d K) := rfl
theorem gdSkip_eq (d : Option Tmp) : gdSkip X q all rest S H n K d () = opsVC X q all rest (sput S d .und) H n K := rfl
def gdB (v : SV) (t : Nat) (want : Bool) (op : Op) (d : Option Tmp) : Prop := match v with
  | .bool c => match want with
    | true => bSplit c (gdRun X q all rest ((t, .bool true) :: S) H n K op d) (gdSkip X q all rest ((t, .bool false) :: S) H n K d)
    | false => bSplit c (gdSkip X q all rest ((t, .bool true) :: S) H n K d) (gdRun X q all rest ((t, .bool false) :: S) H n K op d)
  | .und => opsVC X q all rest (sput S d .und) H n K
  | _ => False
theorem gdB_t (c : Bool) (t : Nat) (op : Op) (d : Option Tmp) : gdB X q all rest S H n K (.bool c) t true op d = bSplit c (gdRun X q all rest ((t, .bool true) :: S) H n K op d) (gdSkip X q all rest ((t, .bool false) :: S) H n K d) := rfl
theorem gdB_f (c : Bool) (t : Nat) (op : Op) (d : Option Tmp) : gdB X q all rest S H n K (.bool c) t false op d = bSplit c (gdSkip X q all rest ((t, .bool true) :: S) H n K d) (gdRun X q all rest ((t, .bool false) :: S) H n K op d) := rfl
theorem gdB_und (t : Nat) (want : Bool) (op : Op) (d : Option Tmp) : gdB X q all rest S H n K .und t want op d = opsVC X q all rest (sput S d .und) H n K := rfl
def gdT (t : Option Tmp) (want : Bool) (op : Op) (d : Option Tmp) : Prop := match t with
  | some t => gdB X q all rest S H n K (sget S t) t want op d
  | none => False
theorem gdT_some (t : Nat) (want : Bool) (op : Op) (d : Option Tmp) : gdT X q all rest S H n K (some t) want op d = gdB X q all rest S H n K (sget S t) t want op d := rfl
def dstAt (all : List Oper) (j : Nat) : Option Tmp := (all[j]?).bind (·.dst)
theorem dstAt_zero (o : Oper) (l : List Oper) : dstAt (o :: l) 0 = o.dst := rfl
theorem dstAt_succ (o : Oper) (l : List Oper) (j : Nat) : dstAt (o :: l) (j + 1) = dstAt l j := by simp [dstAt]
theorem ov_guard (l : List Oper) (d : Option Tmp) (op : Op) (ty : TypeId) (pos : String) (af : Array Edge) (j : Nat) (want : Bool) :
    opsVC X q l.toArray (⟨d, op, ty, pos, af, some (j, want)⟩ :: rest) S H n K = gdT X q l.toArray rest S H n K (dstAt l j) want op d := by
  conv => lhs; unfold opsVC
  simp only [dstAt, gdT, List.getElem?_toArray]
  cases hq : (l[j]?).bind (·.dst) with
  | none => rfl
  | some t =>
    simp only
    unfold gdB
    cases hs : sget S t with
    | bool c => cases want <;> cases c <;> simp [bSplit, gdRun, gdSkip] <;> rfl
    | _ => rfl
end
theorem sget_cons (t k : Nat) (v : SV) (S : Env) : sget ((k, v) :: S) t = if t = k then v else sget S t := by
  unfold sget
  rw [List.lookup_cons]
  by_cases h : t = k
  · simp [h]
  · have : (t == k) = false := by simpa using h
    simp [h, this]
theorem sput_some (S : Env) (t : Nat) (v : SV) : sput S (some t) v = (t, v) :: S := rfl
theorem sput_none (S : Env) (v : SV) : sput S none v = S := rfl
theorem tl_cons {α : Type} (k a : Nat) (b : α) (l : List (Nat × α)) : List.lookup k ((a, b) :: l) = if k = a then some b else List.lookup k l := by
  rw [List.lookup_cons]
  by_cases h : k = a
  · simp [h]
  · have : (k == a) = false := by simpa using h
    simp [h, this]
theorem tl_nil {α : Type} (k : Nat) : List.lookup k ([] : List (Nat × α)) = none := rfl
theorem ev_tmp (S : Env) (t : Nat) : ev S (.tmp t) = sget S t := rfl
theorem ev_func (S : Env) (f : Nat) : ev S (.func f) = .fn f [] := rfl
theorem ev_int (S : Env) (x : Int) : ev S (.const (.int .i64 x)) = .int x := rfl
theorem ev_bool (S : Env) (b : Bool) : ev S (.const (.bool b)) = .bool b := rfl
theorem hv_none (S : Env) : hintVC S none = True := rfl
theorem hv_some (S : Env) (x : Int) : hintVC S (some (.const (.int .i64 x))) = True := rfl
theorem ev_nils (S : Env) : ev S (.const (.slice none 0 0)) = .nils := rfl
theorem ev_agg (S : Env) (l : List Value) : ev S (.const (.agg l.toArray)) = match allI l with | some L => .arr L | none => .lit (.agg l.toArray) := rfl

section
variable (X : Cx) (q : Bool) (S : Env) (H : Heap) (n : Nat) (κ : K1)
theorem o_move (x : Operand) : opVC X q (.move x) S H n κ = κ (ev S x) H n := rfl
theorem o_assign (x : Operand) : opVC X q (.assign x) S H n κ = κ (ev S x) H n := rfl
theorem o_pick (c a b : Operand) : opVC X q (.pick c a b) S H n κ = pickVC (ev S c) (ev S a) (ev S b) H n κ := rfl
theorem o_load (t : TypeId) (a : Operand) : opVC X q (.load t a) S H n κ = loadVC (X.τ t) (ev S a) H n κ := rfl
theorem o_bin (op : BinOp) (t yt : TypeId) (x y : Operand) : opVC X q (.binOp op t x y yt) S H n κ = binVC X.P X.nw X.mw op t (X.τ t) (ev S x) (ev S y) H n κ := rfl
theorem o_conv (t u : TypeId) (x : Operand) : opVC X q (.convert t u x) S H n κ = convVC (X.τ t) (X.τ u) (ev S x) H n κ := rfl
theorem o_un (op : UnOp) (t : TypeId) (x : Operand) : opVC X q (.unOp op t x) S H n κ = unVC X.nw op (ev S x) H n κ := rfl
theorem o_extract (x : Operand) (i : Nat) : opVC X q (.extract x i) S H n κ = extractVC (ev S x) i H n κ := rfl
theorem o_makeFunc (fn : Fn) (first : Array Operand) (caps : List Operand) : opVC X q (.makeFunc fn first caps.toArray) S H n κ = makeFuncVC fn first (caps.map (ev S)) H n κ := rfl
theorem o_fieldAddr (t : TypeId) (x : Operand) (f : Nat) : opVC X q (.fieldAddr t x f) S H n κ = fieldAddrVC X.τ (X.τ t) (ev S x) f H n κ := rfl
theorem o_field (t : TypeId) (x : Operand) (f : Nat) : opVC X q (.field t x f) S H n κ = fieldVC X.τ (X.τ t) (ev S x) f H n κ := rfl
theorem o_nilCheck (x : Operand) : opVC X q (.nilCheck x) S H n κ = nilCheckVC (ev S x) H n κ := rfl
theorem o_indexAddr (t : TypeId) (x i : Operand) : opVC X q (.indexAddr t x i) S H n κ = indexAddrVC X.τ (X.τ t) (ev S x) (ev S i) H n κ := rfl
theorem o_index (t : TypeId) (x i : Operand) : opVC X q (.index t x i) S H n κ = indexVC X.τ (X.τ t) (ev S x) (ev S i) H n κ := rfl
theorem o_lookup (t : TypeId) (x i : Operand) (ok : Bool) : opVC X q (.lookup t x i ok) S H n κ = lookupVC X.P X.τ (X.τ t) (ev S x) (ev S i) ok H n κ := rfl
theorem o_mapUpdate (t : TypeId) (x i v : Operand) : opVC X q (.mapUpdate t x i v) S H n κ = mapUpdateVC X.P X.m (X.τ t) (ev S x) (ev S i) (ev S v) H n κ := rfl
theorem o_makeMap (t : TypeId) (r : Option Operand) : opVC X q (.makeMap t r) S H n κ = (hintVC S r ∧ makeMapVC X.τ (X.τ t) H n κ) := rfl
theorem o_slice (t : TypeId) (x : Operand) (lo hi : Option Operand) : opVC X q (.slice t x lo hi none) S H n κ = sliceVC X.τ (X.τ t) (ev S x) (lo.map (ev S)) (hi.map (ev S)) H n κ := by
  show (true = true ∧ _) = _
  simp
theorem o_build (t : TypeId) (l : List (Nat × Operand)) : opVC X q (.build t l.toArray) S H n κ = buildVC X.τ (X.τ t) (l.map fun p => (p.1, ev S p.2)) H n κ := rfl
theorem o_builtin (b : Builtin) (hb : b ≠ .append) (hb2 : b ≠ .clear) (l : List Operand) (ts : Array TypeId) : opVC X q (.call ⟨.builtin b, l.toArray, ts⟩) S H n κ = ((l.map (ev S)).all SV.known = true ∧ builtinVC X.τ b ts (l.map (ev S)) H n κ) := by
  cases b <;> first | rfl | exact absurd rfl hb | exact absurd rfl hb2
theorem o_len (l : List Operand) (ts : Array TypeId) : opVC X q (.call ⟨.builtin .len, l.toArray, ts⟩) S H n κ = ((l.map (ev S)).all SV.known = true ∧ builtinVC X.τ .len ts (l.map (ev S)) H n κ) := rfl
theorem o_min (l : List Operand) (ts : Array TypeId) : opVC X q (.call ⟨.builtin .min, l.toArray, ts⟩) S H n κ = ((l.map (ev S)).all SV.known = true ∧ builtinVC X.τ .min ts (l.map (ev S)) H n κ) := rfl
theorem o_max (l : List Operand) (ts : Array TypeId) : opVC X q (.call ⟨.builtin .max, l.toArray, ts⟩) S H n κ = ((l.map (ev S)).all SV.known = true ∧ builtinVC X.τ .max ts (l.map (ev S)) H n κ) := rfl
theorem o_append (x y : Operand) (t : TypeId) : opVC X q (.call ⟨.builtin .append, [x, y].toArray, [t, t].toArray⟩) S H n κ = appendVC X.τ X.m (X.τ t) (ev S x) (ev S y) H n κ := by
  show (t = t ∧ _) = _
  simp
theorem o_clear (x : Operand) (t : TypeId) : opVC X q (.call ⟨.builtin .clear, [x].toArray, [t].toArray⟩) S H n κ = clearVC X.τ X.m (X.τ t) (ev S x) H n κ := rfl
theorem o_alloc (e : TypeId) : opVC X q (.alloc e) S H n κ = ((X.τ e).k ≠ .other ∧ flat (X.τ e).z = true ∧ newVC (X.τ e).z e H n κ) := by
  rfl
theorem o_box (e : TypeId) (x : Operand) : opVC X q (.box e x) S H n κ = newVC (ev S x) e H n κ := by
  rfl
theorem o_store (t : TypeId) (a x : Operand) : opVC X q (.store t a x) S H n κ = storeVC X.m (X.τ t) (ev S a) (ev S x) H n κ := by
  rfl
theorem o_buildSlice (t : TypeId) (len : Nat) (l : List (Nat × Operand)) : opVC X q (.buildSlice t len l.toArray) S H n κ = buildSliceVC X.τ (X.τ t) len (l.map fun p => (p.1, ev S p.2)) H n κ := by
  rfl
theorem o_makeSlice (t : TypeId) (l c : Operand) : opVC X q (.makeSlice t l c) S H n κ = makeSliceVC X.τ (X.τ t) (ev S l) (ev S c) H n κ := by
  rfl
theorem o_call (f : Operand) (l : List Operand) (ts : Array TypeId) : opVC X false (.call ⟨.value f, l.toArray, ts⟩) S H n κ = (l.all (fun x => (ev S x).known) = true ∧ callVC X false (ev S f) (l.map (ev S)) H n κ) := rfl
theorem o_callD (f : Operand) (l : List Operand) (ts : Array TypeId) : opVC X true (.call ⟨.value f, l.toArray, ts⟩) S H n κ = (l.all (fun x => (ev S x).known) = true ∧ callVC X (!isIn X.sx f) (ev S f) (l.map (ev S)) H n κ) := rfl
theorem isIn_nil (o : Operand) : isIn [] o = false := rfl
theorem isIn_cons (k f : Nat) (l : List Nat) : isIn (k :: l) (.func f) = if k = f then true else isIn l (.func f) := rfl
theorem isIn_tmp (k t : Nat) (l : List Nat) : isIn (k :: l) (.tmp t) = false := rfl
theorem call_fn (f : Nat) (caps args : List SV) : callVC X q (.fn f caps) args H n κ = callPG X q (X.Γp.lookup f) f (args ++ caps) H n κ := rfl
theorem callPG_some (F : List SV → Heap → Option (Prop × SV)) (f : Nat) (args : List SV) : callPG X q (some F) f args H n κ = resP (F args H) H n κ := rfl
theorem callPG_none (f : Nat) (args : List SV) : callPG X false none f args H n κ = callG X (X.Γ.lookup f) f args H n κ := by simp [callPG]
theorem callG_some (G : List SV → Heap → Nat → Nat → K1 → Prop) (f : Nat) (args : List SV) : callG X (some G) f args H n κ = G args H n X.m κ := rfl
theorem callG_none (f : Nat) (args : List SV) : callG X none f args H n κ = GenOK X.P f args H n X.m κ := rfl
theorem resP_some (p : Prop) (v : SV) : resP (some (p, v)) H n κ = (p ∧ κ v H n) := rfl
end

section
variable (P : Program) (τ : Tys) (nw mw : Bool) (m : Nat) (t : TypeId) (s b : Nat) (z : SV) (H : Heap) (n : Nat) (κ : K1)
theorem cellM_some (v : SV) : cellM (some v) H n κ = (oneCellS v = true ∧ κ v H n) := rfl
def pickU (v : SV) : Unit → Prop := fun _ => κ v H n
theorem pickU_eq (v : SV) : pickU H n κ v () = κ v H n := rfl
theorem pick_bool (c : Bool) (x y : SV) : pickVC (.bool c) x y H n κ = bSplit c (pickU H n κ x) (pickU H n κ y) := rfl
theorem load_ptr (d : TyD) (k off : Nat) : loadVC d (.ptr k off) H n κ = loadB d (hget H k) off H n κ := rfl
theorem load_int (L : List Int) (e off : Nat) : loadB ⟨.int, s, b, z⟩ (some (.ints L e)) off H n κ = (off < L.length ∧ κ (.int (L.getD off 0)) H n) := rfl
theorem load_arr (k e' : Nat) (L : List Int) (e off : Nat) : loadB ⟨.arr k e', s, b, z⟩ (some (.ints L e)) off H n κ = (off + s ≤ L.length ∧ κ (.arr ((L.drop off).take s)) H n) := rfl
theorem load_str (fs : List (Nat × Nat)) (L : List Int) (e off : Nat) : loadB ⟨.str fs, s, b, z⟩ (some (.ints L e)) off H n κ = (off + s ≤ L.length ∧ κ (.arr ((L.drop off).take s)) H n) := rfl
theorem load_wint (o : Nat) (L : List Int) (off : Nat) : loadB ⟨.int, s, b, z⟩ (some (.win o L)) off H n κ = (o ≤ off ∧ off < o + L.length ∧ κ (.int (L.getD (off - o) 0)) H n) := rfl
theorem load_warr (k e' o : Nat) (L : List Int) (off : Nat) : loadB ⟨.arr k e', s, b, z⟩ (some (.win o L)) off H n κ = (0 < s ∧ o ≤ off ∧ off + s ≤ o + L.length ∧ κ (.arr ((L.drop (off - o)).take s)) H n) := rfl
theorem load_wstr (fs : List (Nat × Nat)) (o : Nat) (L : List Int) (off : Nat) : loadB ⟨.str fs, s, b, z⟩ (some (.win o L)) off H n κ = (0 < s ∧ o ≤ off ∧ off + s ≤ o + L.length ∧ κ (.arr ((L.drop (off - o)).take s)) H n) := rfl
theorem load_bool (L : List Bool) (e off : Nat) : loadB ⟨.bool, s, b, z⟩ (some (.bls L e)) off H n κ = (off < L.length ∧ κ (.bool (L.getD off false)) H n) := rfl
theorem load_cellsI (l : List SV) (e off : Nat) : loadB ⟨.int, s, b, z⟩ (some (.cells l e)) off H n κ = cellM l[off]? H n κ := by simp [loadB, Kd.isSca]
theorem load_cellsB (l : List SV) (e off : Nat) : loadB ⟨.bool, s, b, z⟩ (some (.cells l e)) off H n κ = cellM l[off]? H n κ := by simp [loadB, Kd.isSca]
theorem load_cellsL (e1 : Nat) (l : List SV) (e off : Nat) : loadB ⟨.sl e1, s, b, z⟩ (some (.cells l e)) off H n κ = cellM l[off]? H n κ := by simp [loadB, Kd.isSca]
theorem load_cellsM (k1 e1 : Nat) (l : List SV) (e off : Nat) : loadB ⟨.mp k1 e1, s, b, z⟩ (some (.cells l e)) off H n κ = cellM l[off]? H n κ := by simp [loadB, Kd.isSca]
theorem load_cellsS (l : List SV) (e off : Nat) : loadB ⟨.sca, s, b, z⟩ (some (.cells l e)) off H n κ = cellM l[off]? H n κ := by simp [loadB, Kd.isSca]
theorem load_cellsU (k1 : IntKind) (l : List SV) (e off : Nat) : loadB ⟨.num k1, s, b, z⟩ (some (.cells l e)) off H n κ = cellM l[off]? H n κ := by simp [loadB, Kd.isSca]
theorem load_winU (o : Nat) (L : List Int) (off : Nat) : loadB ⟨.num .u8, s, b, z⟩ (some (.winU o L)) off H n κ = (o ≤ off ∧ off < o + L.length ∧ κ (.lit (.int .u8 (L.getD (off - o) 0))) H n) := rfl
theorem load_cellsR (fs : List (Nat × Nat)) (l : List SV) (e off : Nat) : loadB ⟨.str fs, s, b, z⟩ (some (.cells l e)) off H n κ = (off + s ≤ l.length ∧ κ (.stc ((l.drop off).take s)) H n) := rfl
theorem bin_ii (op : BinOp) (d : TyD) (x y : Int) : binVC P nw mw op t d (.int x) (.int y) H n κ = intVC nw mw op x y H n κ := rfl
theorem i_add (x y : Int) : intVC nw mw .add x y H n κ = arVC nw (x + y) H n κ := rfl
theorem i_sub (x y : Int) : intVC nw mw .sub x y H n κ = arVC nw (x - y) H n κ := rfl
theorem i_mul (x y : Int) : intVC nw mw .mul x y H n κ = arVC mw (x * y) H n κ := rfl
theorem i_quo (x y : Int) : intVC nw mw .quo x y H n κ = (y ≠ 0 ∧ arVC mw (x.tdiv y) H n κ) := rfl
theorem i_rem (x y : Int) : intVC nw mw .rem x y H n κ = (y ≠ 0 ∧ κ (.int (x.tmod y)) H n) := rfl
theorem i_eql (x y : Int) : intVC nw mw .eql x y H n κ = κ (.bool (decide (x = y))) H n := rfl
theorem i_neq (x y : Int) : intVC nw mw .neq x y H n κ = κ (.bool (!decide (x = y))) H n := rfl
theorem i_lss (x y : Int) : intVC nw mw .lss x y H n κ = κ (.bool (decide (x < y))) H n := rfl
theorem i_leq (x y : Int) : intVC nw mw .leq x y H n κ = κ (.bool (decide (x ≤ y))) H n := rfl
theorem i_gtr (x y : Int) : intVC nw mw .gtr x y H n κ = κ (.bool (decide (y < x))) H n := rfl
theorem i_geq (x y : Int) : intVC nw mw .geq x y H n κ = κ (.bool (decide (y ≤ x))) H n := rfl
theorem ar_t (x : Int) : arVC true x H n κ = (In64 x ∧ κ (.int x) H n) := rfl
theorem ar_f (x : Int) : arVC false x H n κ = κ (.int (IntKind.i64.wrap x)) H n := rfl
theorem bin_ll (op : BinOp) (d : TyD) (k k' : IntKind) (x y : Int) : binVC P nw mw op t d (.lit (.int k x)) (.lit (.int k' y)) H n κ = numVC op k k' x y H n κ := rfl
theorem bin_li (op : BinOp) (d : TyD) (k : IntKind) (x y : Int) : binVC P nw mw op t d (.lit (.int k x)) (.int y) H n κ = numVC op k .i64 x y H n κ := rfl
theorem n_add (k : IntKind) (x y : Int) : numVC .add k k x y H n κ = κ (.lit (.int k (k.wrap (x + y)))) H n := by simp [numVC]
theorem n_sub (k : IntKind) (x y : Int) : numVC .sub k k x y H n κ = κ (.lit (.int k (k.wrap (x - y)))) H n := by simp [numVC]
theorem n_mul (k : IntKind) (x y : Int) : numVC .mul k k x y H n κ = κ (.lit (.int k (k.wrap (x * y)))) H n := by simp [numVC]
theorem n_and (k : IntKind) (x y : Int) : numVC .and k k x y H n κ = κ (.lit (.int k (k.wrap (BitVec.ofInt k.bits x &&& BitVec.ofInt k.bits y).toNat))) H n := by simp [numVC]
theorem n_xor (k : IntKind) (x y : Int) : numVC .xor k k x y H n κ = κ (.lit (.int k (k.wrap (BitVec.ofInt k.bits x ^^^ BitVec.ofInt k.bits y).toNat))) H n := by simp [numVC]
theorem n_shr (k k' : IntKind) (x y : Int) : numVC .shr k k' x y H n κ = (0 ≤ y ∧ κ (.lit (.int k (x.fdiv (2 ^ (min y.toNat k.bits))))) H n) := rfl
theorem cv_int (d e : TyD) (x : Int) : convVC d e (.int x) H n κ = (d.k.isSca = true ∧ convI e x H n κ) := rfl
theorem cv_lit (d e : TyD) (k : IntKind) (x : Int) : convVC d e (.lit (.int k x)) H n κ = (d.k.isSca = true ∧ convI e x H n κ) := rfl
theorem ci_int (x : Int) : convI ⟨.int, s, b, z⟩ x H n κ = (In64 x ∧ κ (.int x) H n) := rfl
theorem ci_num (k : IntKind) (x : Int) : convI ⟨.num k, s, b, z⟩ x H n κ = κ (.lit (.int k (k.wrap x))) H n := rfl
theorem ev_u64 (S : Env) (x : Int) : ev S (.const (.int .u64 x)) = .lit (.int .u64 x) := rfl
theorem ev_u8 (S : Env) (x : Int) : ev S (.const (.int .u8 x)) = .lit (.int .u8 x) := rfl
theorem bin_bb_eql (x y : Bool) : binVC P nw mw .eql t ⟨.bool, s, b, z⟩ (.bool x) (.bool y) H n κ = κ (.bool (x == y)) H n := by simp [binVC]
theorem bin_bb_neq (x y : Bool) : binVC P nw mw .neq t ⟨.bool, s, b, z⟩ (.bool x) (.bool y) H n κ = κ (.bool (!(x == y))) H n := by simp [binVC]
theorem bin_aa_eql (d : TyD) (L M : List Int) : binVC P nw mw .eql t d (.arr L) (.arr M) H n κ = (EqI P t d.size ∧ L.length = d.size ∧ M.length = d.size ∧ κ (.bool (decide (L = M))) H n) := rfl
theorem bin_aa_neq (d : TyD) (L M : List Int) : binVC P nw mw .neq t d (.arr L) (.arr M) H n κ = (EqI P t d.size ∧ L.length = d.size ∧ M.length = d.size ∧ κ (.bool (!decide (L = M))) H n) := rfl
theorem un_not (x : Bool) : unVC nw .not (.bool x) H n κ = κ (.bool (!x)) H n := rfl
theorem un_neg (x : Int) : unVC nw .neg (.int x) H n κ = arVC nw (-x) H n κ := rfl
theorem extract_zero (v : SV) (l : List SV) : extractVC (.tup (v :: l)) 0 H n κ = κ v H n := rfl
theorem extract_succ (v : SV) (l : List SV) (i : Nat) : extractVC (.tup (v :: l)) (i + 1) H n κ = extractVC (.tup l) i H n κ := by simp [extractVC]
theorem makeFunc_func (f : Nat) (caps : List SV) : makeFuncVC (.func f) #[] caps H n κ = (caps.all SV.known = true ∧ κ (.fn f caps) H n) := by simp [makeFuncVC]
theorem fa_str (fs : List (Nat × Nat)) (k off f : Nat) : fieldAddrVC τ ⟨.str fs, s, b, z⟩ (.ptr k off) f H n κ = match fs[f]? with
    | some (o, ft) => (τ ft).k ≠ .other ∧ (τ ft).size ≠ 0 ∧ κ (.ptr k (off + o)) H n
    | none => False := rfl
theorem f_str (fs : List (Nat × Nat)) (L : List Int) (f : Nat) : fieldVC τ ⟨.str fs, s, b, z⟩ (.arr L) f H n κ = match fs[f]? with
    | some (o, ft) => partVC (τ ft) L o H n κ
    | none => False := rfl
theorem f_stc (fs : List (Nat × Nat)) (l : List SV) (f : Nat) : fieldVC τ ⟨.str fs, s, b, z⟩ (.stc l) f H n κ = match fs[f]? with
    | some (o, ft) => (τ ft).k.isSca = true ∧ cellM l[o]? H n κ
    | none => False := rfl
theorem nil_ptr (k off : Nat) : nilCheckVC (.ptr k off) H n κ = κ (.ptr k off) H n := rfl
theorem part_int (L : List Int) (off : Nat) : partVC ⟨.int, s, b, z⟩ L off H n κ = (off < L.length ∧ κ (.int (L.getD off 0)) H n) := rfl
theorem part_arr (k e : Nat) (L : List Int) (off : Nat) : partVC ⟨.arr k e, s, b, z⟩ L off H n κ = κ (.arr ((L.drop off).take s)) H n := rfl
theorem part_str (fs : List (Nat × Nat)) (L : List Int) (off : Nat) : partVC ⟨.str fs, s, b, z⟩ L off H n κ = κ (.arr ((L.drop off).take s)) H n := rfl
theorem ia_arr (len e k off : Nat) (i : Int) : indexAddrVC τ ⟨.arr len e, s, b, z⟩ (.ptr k off) (.int i) H n κ = ((τ e).k ≠ .other ∧ 0 ≤ i ∧ i < len ∧ κ (.ptr k (off + i.toNat * (τ e).size)) H n) := rfl
theorem ia_sl (e k off len cap : Nat) (i : Int) : indexAddrVC τ ⟨.sl e, s, b, z⟩ (.slice k off len cap) (.int i) H n κ = ((τ e).k ≠ .other ∧ 0 ≤ i ∧ i < len ∧ κ (.ptr k (off + i.toNat * (τ e).size)) H n) := rfl
theorem ix_arr (len e : Nat) (L : List Int) (i : Int) : indexVC τ ⟨.arr len e, s, b, z⟩ (.arr L) (.int i) H n κ = (0 ≤ i ∧ i < len ∧ partVC (τ e) L (i.toNat * (τ e).size) H n κ) := rfl
theorem sl_arr (len e k off : Nat) (lo hi : Option SV) : sliceVC τ ⟨.arr len e, s, b, z⟩ (.ptr k off) lo hi H n κ = ((τ e).k ≠ .other ∧ bndVC hi len len fun h => bndVC lo 0 h fun l => κ (.slice k (cutOff len l off (τ e).size) (h - l) (len - l)) H n) := rfl
theorem sl_sl (e k off len cap : Nat) (lo hi : Option SV) : sliceVC τ ⟨.sl e, s, b, z⟩ (.slice k off len cap) lo hi H n κ = ((τ e).k ≠ .other ∧ bndVC hi len cap fun h => bndVC lo 0 h fun l => κ (.slice k (cutOff cap l off (τ e).size) (h - l) (cap - l)) H n) := rfl
theorem sl_nils (e : Nat) (lo hi : Option SV) : sliceVC τ ⟨.sl e, s, b, z⟩ .nils lo hi H n κ = ((τ e).k ≠ .other ∧ bndVC hi 0 0 fun h => bndVC lo 0 h fun _ => κ .nils H n) := rfl
theorem bnd_none (d hi : Nat) (κ' : Nat → Prop) : bndVC none d hi κ' = κ' d := rfl
theorem bnd_some (d hi : Nat) (i : Int) (κ' : Nat → Prop) : bndVC (some (.int i)) d hi κ' = (0 ≤ i ∧ i ≤ hi ∧ κ' i.toNat) := rfl
theorem len_sl (e k off len cap : Nat) : lenVC ⟨.sl e, s, b, z⟩ (.slice k off len cap) H n κ = κ (.int len) H n := rfl
theorem len_mp (kk e k : Nat) : lenVC ⟨.mp kk e, s, b, z⟩ (.mp k) H n κ = lenMB (hget H k) H n κ := rfl
theorem lenMB_mp (bv : Bool) (l : List (List Int × Int)) : lenMB (some (.mp bv l)) H n κ = κ (.int l.length) H n := rfl
theorem lk_mp (kk e k : Nat) (K : List Int) (ok : Bool) : lookupVC P τ ⟨.mp kk e, s, b, z⟩ (.mp k) (.arr K) ok H n κ = lookupB P τ kk e ok (hget H k) K H n κ := rfl
theorem lkB_mp (kk e : Nat) (bv ok : Bool) (l : List (List Int × Int)) (K : List Int) : lookupB P τ kk e ok (some (.mp bv l)) K H n κ = (KeyI P kk K.length ∧ keysOK l K.length ∧ (τ e).k ≠ .other ∧ (τ e).z = mz bv ∧ κ (lkRes bv ok l K) H n) := rfl
theorem lkR_t (bv : Bool) (l : List (List Int × Int)) (K : List Int) : lkRes bv true l K = .tup [mvS bv (mget l K), .bool (mhas l K)] := rfl
theorem lkR_f (bv : Bool) (l : List (List Int × Int)) (K : List Int) : lkRes bv false l K = mvS bv (mget l K) := rfl
theorem mvS_t (x : Int) : mvS true x = .bool (decide (x = 1)) := rfl
theorem mvS_f (x : Int) : mvS false x = .int x := rfl
theorem mz_t : mz true = .bool false := rfl
theorem mz_f : mz false = .int 0 := rfl
theorem mu_mp (kk e k : Nat) (K : List Int) (v : SV) : mapUpdateVC P m ⟨.mp kk e, s, b, z⟩ (.mp k) (.arr K) v H n κ = (m ≤ k ∧ updB P kk K k (hget H k) v H n κ) := rfl
theorem muB_t (kk : Nat) (K : List Int) (k : Nat) (l : List (List Int × Int)) (x : Bool) : updB P kk K k (some (.mp true l)) (.bool x) H n κ = (KeyI P kk K.length ∧ keysOK l K.length ∧ κ .und ((k, .mp true (mset l K (if x then 1 else 0))) :: H) n) := rfl
theorem muB_f (kk : Nat) (K : List Int) (k : Nat) (l : List (List Int × Int)) (x : Int) : updB P kk K k (some (.mp false l)) (.int x) H n κ = (KeyI P kk K.length ∧ keysOK l K.length ∧ κ .und ((k, .mp false (mset l K x)) :: H) n) := rfl
def mkB (k : Kd) (H : Heap) (n : Nat) (κ : K1) : Prop := match k with
  | .bool => κ (.mp n) ((n, .mp true []) :: H) (n + 1)
  | .int => κ (.mp n) ((n, .mp false []) :: H) (n + 1)
  | _ => False
theorem mk_mp (kk e : Nat) : makeMapVC τ ⟨.mp kk e, s, b, z⟩ H n κ = mkB (τ e).k H n κ := rfl
theorem mkB_t : mkB .bool H n κ = κ (.mp n) ((n, .mp true []) :: H) (n + 1) := rfl
theorem mkB_f : mkB .int H n κ = κ (.mp n) ((n, .mp false []) :: H) (n + 1) := rfl
theorem len_nils (e : Nat) : lenVC ⟨.sl e, s, b, z⟩ .nils H n κ = κ (.int 0) H n := rfl
theorem b_len (t : TypeId) (r : List TypeId) (x : SV) : builtinVC τ .len (t :: r).toArray [x] H n κ = lenVC (τ t) x H n κ := rfl
theorem b_min (ts : Array TypeId) (x y : Int) : builtinVC τ .min ts [.int x, .int y] H n κ = κ (.int (min x y)) H n := rfl
theorem b_max (ts : Array TypeId) (x y : Int) : builtinVC τ .max ts [.int x, .int y] H n κ = κ (.int (max x y)) H n := rfl
theorem new_int (x : Int) (e : Nat) : newVC (.int x) e H n κ = κ (.ptr n 0) ((n, .ints [x] e) :: H) (n + 1) := rfl
theorem new_arr (L : List Int) (e : Nat) : newVC (.arr L) e H n κ = κ (.ptr n 0) ((n, .ints L e) :: H) (n + 1) := rfl
theorem new_bool (x : Bool) (e : Nat) : newVC (.bool x) e H n κ = κ (.ptr n 0) ((n, .bls [x] e) :: H) (n + 1) := rfl
theorem new_barr (L : List Bool) (e : Nat) : newVC (.barr L) e H n κ = κ (.ptr n 0) ((n, .bls L e) :: H) (n + 1) := rfl
theorem new_ptr (k o e : Nat) : newVC (.ptr k o) e H n κ = κ (.ptr n 0) ((n, .cells [.ptr k o] e) :: H) (n + 1) := rfl
theorem new_slice (k o l c e : Nat) : newVC (.slice k o l c) e H n κ = κ (.ptr n 0) ((n, .cells [.slice k o l c] e) :: H) (n + 1) := rfl
theorem new_nils (e : Nat) : newVC .nils e H n κ = κ (.ptr n 0) ((n, .cells [.nils] e) :: H) (n + 1) := rfl
theorem new_mp (k e : Nat) : newVC (.mp k) e H n κ = κ (.ptr n 0) ((n, .cells [.mp k] e) :: H) (n + 1) := rfl
theorem new_stc (l : List SV) (e : Nat) : newVC (.stc l) e H n κ = (l.all oneCellS = true ∧ κ (.ptr n 0) ((n, .cells l e) :: H) (n + 1)) := by
  by_cases h : l.all oneCellS = true
  · have e1 : blockOf (.stc l) e = some (.cells l e) := if_pos h
    simp only [newVC, e1, h, true_and]
  · have e1 : blockOf (.stc l) e = none := if_neg h
    simp only [newVC, e1, h]
    simp
theorem new_fn (f : Nat) (caps : List SV) (e : Nat) : newVC (.fn f caps) e H n κ = κ (.ptr n 0) ((n, .cells [.fn f caps] e) :: H) (n + 1) := rfl
theorem store_ptr (d : TyD) (k off : Nat) (v : SV) : storeVC m d (.ptr k off) v H n κ = (m ≤ k ∧ d.k ≠ .other ∧ storeB d (hget H k) k off v H n κ) := rfl
theorem store_int (d : TyD) (L : List Int) (e k off : Nat) (x : Int) : storeB d (some (.ints L e)) k off (.int x) H n κ = (d.size = 1 ∧ off < L.length ∧ κ .und ((k, .ints (L.set off x) e) :: H) n) := rfl
theorem store_arr (d : TyD) (L : List Int) (e k off : Nat) (M : List Int) : storeB d (some (.ints L e)) k off (.arr M) H n κ = (M.length = d.size ∧ off + M.length ≤ L.length ∧ κ .und ((k, .ints (L.take off ++ M ++ L.drop (off + M.length)) e) :: H) n) := rfl
theorem store_bool (d : TyD) (L : List Bool) (e k off : Nat) (x : Bool) : storeB d (some (.bls L e)) k off (.bool x) H n κ = (d.size = 1 ∧ off < L.length ∧ κ .und ((k, .bls (L.set off x) e) :: H) n) := rfl
theorem store_cellsI (d : TyD) (l : List SV) (e k off : Nat) (x : Int) : storeB d (some (.cells l e)) k off (.int x) H n κ = (d.size = 1 ∧ off < l.length ∧ κ .und ((k, .cells (l.set off (.int x)) e) :: H) n) := by simp [storeB, oneCellS]
theorem store_cellsB (d : TyD) (l : List SV) (e k off : Nat) (x : Bool) : storeB d (some (.cells l e)) k off (.bool x) H n κ = (d.size = 1 ∧ off < l.length ∧ κ .und ((k, .cells (l.set off (.bool x)) e) :: H) n) := by simp [storeB, oneCellS]
theorem store_cellsP (d : TyD) (l : List SV) (e k off : Nat) (b1 o1 : Nat) : storeB d (some (.cells l e)) k off (.ptr b1 o1) H n κ = (d.size = 1 ∧ off < l.length ∧ κ .und ((k, .cells (l.set off (.ptr b1 o1)) e) :: H) n) := by simp [storeB, oneCellS]
theorem store_cellsL (d : TyD) (l : List SV) (e k off : Nat) (b1 o1 l1 c1 : Nat) : storeB d (some (.cells l e)) k off (.slice b1 o1 l1 c1) H n κ = (d.size = 1 ∧ off < l.length ∧ κ .und ((k, .cells (l.set off (.slice b1 o1 l1 c1)) e) :: H) n) := by simp [storeB, oneCellS]
theorem store_cellsN (d : TyD) (l : List SV) (e k off : Nat) : storeB d (some (.cells l e)) k off (.nils) H n κ = (d.size = 1 ∧ off < l.length ∧ κ .und ((k, .cells (l.set off (.nils)) e) :: H) n) := by simp [storeB, oneCellS]
theorem store_cellsF (d : TyD) (l : List SV) (e k off : Nat) (f1 : Nat) (cs : List SV) : storeB d (some (.cells l e)) k off (.fn f1 cs) H n κ = (d.size = 1 ∧ off < l.length ∧ κ .und ((k, .cells (l.set off (.fn f1 cs)) e) :: H) n) := by simp [storeB, oneCellS]
theorem store_cellsU (d : TyD) (l : List SV) (e k off : Nat) (k1 : IntKind) (x : Int) : storeB d (some (.cells l e)) k off (.lit (.int k1 x)) H n κ = (d.size = 1 ∧ off < l.length ∧ κ .und ((k, .cells (l.set off (.lit (.int k1 x))) e) :: H) n) := by simp [storeB, oneCellS, litOne]
theorem store_cellsM (d : TyD) (l : List SV) (e k off : Nat) (b1 : Nat) : storeB d (some (.cells l e)) k off (.mp b1) H n κ = (d.size = 1 ∧ off < l.length ∧ κ .und ((k, .cells (l.set off (.mp b1)) e) :: H) n) := by simp [storeB, oneCellS]
theorem store_cellsR (d : TyD) (l : List SV) (e k off : Nat) (M : List SV) : storeB d (some (.cells l e)) k off (.stc M) H n κ = (M.all oneCellS = true ∧ M.length = d.size ∧ off + M.length ≤ l.length ∧ κ .und ((k, .cells (l.take off ++ M ++ l.drop (off + M.length)) e) :: H) n) := rfl
end
theorem cut_zero (m off es : Nat) : cutOff m 0 off es = off := by simp [cutOff]
theorem wfl_nil (n : Nat) : wfL n [] = True := rfl
theorem kd_ne (k : Kd) : (Kd.int ≠ .other) = True ∧ (Kd.bool ≠ .other) = True := by simp

/-! Literals. -/
def bdM (o : Option (List Int)) (H : Heap) (n : Nat) (κ : K1) : Prop := match o with
  | some L => κ (.arr L) H n
  | none => False
theorem bdM_some (L : List Int) (H : Heap) (n : Nat) (κ : K1) : bdM (some L) H n κ = κ (.arr L) H n := rfl
def fillA (es : Nat) (Z : List Int) (l : List (Nat × SV)) : Option (List Int) := fillI (fun i => some (i * es, es)) Z l
def fillS (τ : Tys) (fs : List (Nat × Nat)) (Z : List Int) (l : List (Nat × SV)) : Option (List Int) := fillI (fun i => (fs[i]?).map fun x => (x.1, (τ x.2).size)) Z l
theorem bd_arr (τ : Tys) (k e s b : Nat) (Z : List Int) (parts : List (Nat × SV)) (H : Heap) (n : Nat) (κ : K1) : buildVC τ ⟨.arr k e, s, b, .arr Z⟩ parts H n κ = ((τ e).k ≠ .other ∧ bdM (fillA (τ e).size Z parts) H n κ) := rfl
theorem bd_str (τ : Tys) (fs : List (Nat × Nat)) (s b : Nat) (Z : List Int) (parts : List (Nat × SV)) (H : Heap) (n : Nat) (κ : K1) : buildVC τ ⟨.str fs, s, b, .arr Z⟩ parts H n κ = ((fs.all fun x => match (τ x.2).k with | .other => false | _ => true) = true ∧ bdM (fillS τ fs Z parts) H n κ) := rfl
theorem fA_nil (es : Nat) (Z : List Int) : fillA es Z [] = some Z := rfl
theorem fA_int (Z : List Int) (i : Nat) (x : Int) (r : List (Nat × SV)) : fillA 1 Z ((i, .int x) :: r) = if i < Z.length then fillA 1 (Z.set i x) r else none := by
  simp [fillA, fillI]
theorem fA_arr (es : Nat) (Z M : List Int) (i : Nat) (r : List (Nat × SV)) : fillA es Z ((i, .arr M) :: r) = if M.length = es ∧ i * es + M.length ≤ Z.length then fillA es (Z.take (i * es) ++ M ++ Z.drop (i * es + M.length)) r else none := by
  simp only [fillA]
  conv => lhs; unfold fillI
  split
  · rename_i h; cases h
  · rename_i h h2; cases h; cases h2; rfl
  · rename_i h; exact absurd rfl (h _ _ _ rfl)
theorem fS_nil (τ : Tys) (fs : List (Nat × Nat)) (Z : List Int) : fillS τ fs Z [] = some Z := rfl
def fSt (τ : Tys) (fs : List (Nat × Nat)) (Z : List Int) (v : SV) (r : List (Nat × SV)) (o : Option (Nat × Nat)) : Option (List Int) := match o, v with
  | some (off, 1), .int x => if off < Z.length then fillS τ fs (Z.set off x) r else none
  | some (off, s), .arr M => if M.length = s ∧ off + M.length ≤ Z.length then fillS τ fs (Z.take off ++ M ++ Z.drop (off + M.length)) r else none
  | _, _ => none
theorem fS_cons (τ : Tys) (fs : List (Nat × Nat)) (Z : List Int) (i : Nat) (v : SV) (r : List (Nat × SV)) : fillS τ fs Z ((i, v) :: r) = fSt τ fs Z v r ((fs[i]?).map fun x => (x.1, (τ x.2).size)) := by
  simp only [fillS]
  conv => lhs; unfold fillI
  unfold fSt
  rfl
theorem fSt_int (τ : Tys) (fs : List (Nat × Nat)) (Z : List Int) (x : Int) (r : List (Nat × SV)) (off : Nat) : fSt τ fs Z (.int x) r (some (off, 1)) = if off < Z.length then fillS τ fs (Z.set off x) r else none := rfl
theorem fSt_arr (τ : Tys) (fs : List (Nat × Nat)) (Z M : List Int) (r : List (Nat × SV)) (off s : Nat) : fSt τ fs Z (.arr M) r (some (off, s)) = if M.length = s ∧ off + M.length ≤ Z.length then fillS τ fs (Z.take off ++ M ++ Z.drop (off + M.length)) r else none := by
  unfold fSt
  split
  · rename_i h; cases h
  · rename_i h h2; cases h; cases h2; rfl
  · rename_i h; exact absurd rfl (h _ _ _ rfl)
/-! A struct of several kinds. -/
def bdT (o : Option (List SV)) (H : Heap) (n : Nat) (κ : K1) : Prop := match o with
  | some L => κ (.stc L) H n
  | none => False
theorem bdT_some (L : List SV) (H : Heap) (n : Nat) (κ : K1) : bdT (some L) H n κ = κ (.stc L) H n := rfl
def fillR (fs : List (Nat × Nat)) (Z : List SV) (l : List (Nat × SV)) : Option (List SV) := fillT (fun i => (fs[i]?).map fun x => x.1) Z l
theorem bd_stc (τ : Tys) (fs : List (Nat × Nat)) (s b : Nat) (Z : List SV) (parts : List (Nat × SV)) (H : Heap) (n : Nat) (κ : K1) : buildVC τ ⟨.str fs, s, b, .stc Z⟩ parts H n κ = (Z.all flat1 = true ∧ (fs.all fun x => match (τ x.2).k with | .other => false | _ => true) = true ∧ (fs.all fun x => (τ x.2).size == 1) = true ∧ bdT (fillR fs Z parts) H n κ) := rfl
theorem fR_nil (fs : List (Nat × Nat)) (Z : List SV) : fillR fs Z [] = some Z := rfl
def fRt (fs : List (Nat × Nat)) (Z : List SV) (v : SV) (r : List (Nat × SV)) (o : Option Nat) (c : Bool) : Option (List SV) := match o, c with
  | some off, true => if off < Z.length then fillR fs (Z.set off v) r else none
  | _, _ => none
theorem fR_cons (fs : List (Nat × Nat)) (Z : List SV) (i : Nat) (v : SV) (r : List (Nat × SV)) : fillR fs Z ((i, v) :: r) = fRt fs Z v r ((fs[i]?).map fun x => x.1) (oneCellS v) := by
  simp only [fillR]
  conv => lhs; unfold fillT
  unfold fRt
  rfl
theorem fRt_some (fs : List (Nat × Nat)) (Z : List SV) (v : SV) (r : List (Nat × SV)) (off : Nat) : fRt fs Z v r (some off) true = if off < Z.length then fillR fs (Z.set off v) r else none := rfl
theorem rep2_set (x y : Int) : ((List.replicate 2 (0 : Int)).set 0 x).set 1 y = [x, y] := rfl
theorem rep3_set (x y z : Int) : (((List.replicate 3 (0 : Int)).set 0 x).set 1 y).set 2 z = [x, y, z] := rfl
theorem ifN {p : Prop} [Decidable p] {α : Type} (a b : α) (h : p) : (if p then a else b) = a := if_pos h

/-! Slices made. -/
def bsM (o : Option (List Int)) (len e : Nat) (H : Heap) (n : Nat) (κ : K1) : Prop := match o with
  | some L => κ (.slice n 0 len len) ((n, .ints L e) :: H) (n + 1)
  | none => False
theorem bsM_some (L : List Int) (len e : Nat) (H : Heap) (n : Nat) (κ : K1) : bsM (some L) len e H n κ = κ (.slice n 0 len len) ((n, .ints L e) :: H) (n + 1) := rfl
theorem bs_sl (τ : Tys) (e s b : Nat) (z : SV) (len : Nat) (parts : List (Nat × SV)) (H : Heap) (n : Nat) (κ : K1) : buildSliceVC τ ⟨.sl e, s, b, z⟩ len parts H n κ =
    ((τ e).k ≠ .other ∧ isZ (τ e).z (τ e).size = true ∧ 0 < (τ e).size ∧ len * (τ e).size ≤ 16777216 ∧ bsM (fillA (τ e).size (List.replicate (len * (τ e).size) 0) parts) len e H n κ) := rfl
def msM (z : SV) (s e : Nat) (x y : Int) (H : Heap) (n : Nat) (κ : K1) : Prop := match z with
  | .nils => s = 1 ∧ κ (.slice n 0 x.toNat y.toNat) ((n, .cells (List.replicate y.toNat .nils) e) :: H) (n + 1)
  | z => isZ z s = true ∧ κ (.slice n 0 x.toNat y.toNat) ((n, .ints (List.replicate (y.toNat * s) 0) e) :: H) (n + 1)
theorem msM_nils (s e : Nat) (x y : Int) (H : Heap) (n : Nat) (κ : K1) : msM .nils s e x y H n κ = (s = 1 ∧ κ (.slice n 0 x.toNat y.toNat) ((n, .cells (List.replicate y.toNat .nils) e) :: H) (n + 1)) := rfl
theorem msM_int (i : Int) (s e : Nat) (x y : Int) (H : Heap) (n : Nat) (κ : K1) : msM (.int i) s e x y H n κ = (isZ (.int i) s = true ∧ κ (.slice n 0 x.toNat y.toNat) ((n, .ints (List.replicate (y.toNat * s) 0) e) :: H) (n + 1)) := rfl
theorem msM_arr (L : List Int) (s e : Nat) (x y : Int) (H : Heap) (n : Nat) (κ : K1) : msM (.arr L) s e x y H n κ = (isZ (.arr L) s = true ∧ κ (.slice n 0 x.toNat y.toNat) ((n, .ints (List.replicate (y.toNat * s) 0) e) :: H) (n + 1)) := rfl
theorem ms_sl (τ : Tys) (e s b : Nat) (z : SV) (x y : Int) (H : Heap) (n : Nat) (κ : K1) : makeSliceVC τ ⟨.sl e, s, b, z⟩ (.int x) (.int y) H n κ =
    ((τ e).k ≠ .other ∧ 0 < (τ e).size ∧ 0 ≤ x ∧ x ≤ y ∧ y ≤ 9223372036854775807 ∧ (τ e).bytes * y ≤ 140737488355328 ∧ msM (τ e).z (τ e).size e x y H n κ) := rfl
theorem isZ_int : isZ (.int 0) 1 = true := rfl
theorem isZ_arr (s : Nat) : isZ (.arr (List.replicate s 0)) s = true := by simp [isZ]
def srcB (es : Nat) (o : Option SObj) (off len : Nat) (κ : List Int → Nat → Prop) : Prop := match o with
  | some (.ints L _) => 0 < len ∧ off + len * es ≤ L.length ∧ κ ((L.drop off).take (len * es)) len
  | _ => False
theorem src_sl (es b off len cap : Nat) (H : Heap) (κ : List Int → Nat → Prop) : srcVC es (.slice b off len cap) H κ = srcB es (hget H b) off len κ := by
  simp only [srcVC, srcB]
  rcases hget H b with _ | o
  · rfl
  · cases o <;> rfl
theorem srcB_ints (es : Nat) (L : List Int) (e off len : Nat) (κ : List Int → Nat → Prop) : srcB es (some (.ints L e)) off len κ = (0 < len ∧ off + len * es ≤ L.length ∧ κ ((L.drop off).take (len * es)) len) := rfl
theorem srcE_zero (b o c : Nat) : srcE (.slice b o 0 c) = true := rfl
theorem srcE_one (b o c : Nat) : srcE (.slice b o 1 c) = false := rfl
theorem srcE_succ (b o k c : Nat) : srcE (.slice b o (k + 1) c) = false := rfl
theorem srcE_nils : srcE .nils = true := rfl
theorem ap_nils (τ : Tys) (m e s b : Nat) (z x : SV) (H : Heap) (n : Nat) (κ : K1) (hx : srcE x = false) : appendVC τ m ⟨.sl e, s, b, z⟩ .nils x H n κ = ((τ e).k ≠ .other ∧ isZ (τ e).z (τ e).size = true ∧ 0 < (τ e).size ∧
    srcVC (τ e).size x H fun news k => k * (τ e).bytes ≤ 140737488355328 ∧ k ≤ 9223372036854775807 ∧ ∀ (junk : List Int) (cap : Nat), junk.length + k * (τ e).size = cap * (τ e).size → κ (.slice n 0 k cap) ((n, .ints (news ++ junk) e) :: H) (n + 1)) := by
  unfold appendVC
  simp only [hx]
theorem ap_e_nils (τ : Tys) (m e s b : Nat) (z x : SV) (H : Heap) (n : Nat) (κ : K1) (hx : srcE x = true) : appendVC τ m ⟨.sl e, s, b, z⟩ .nils x H n κ = ((τ e).k ≠ .other ∧ isZ (τ e).z (τ e).size = true ∧ 0 < (τ e).size ∧ κ .nils H n) := by
  unfold appendVC
  simp only [hx, keepVC]
theorem ap_e_sl (τ : Tys) (m e s b0 : Nat) (z : SV) (b len cap : Nat) (x : SV) (H : Heap) (n : Nat) (κ : K1) (hx : srcE x = true) : appendVC τ m ⟨.sl e, s, b0, z⟩ (.slice b 0 len cap) x H n κ = ((τ e).k ≠ .other ∧ isZ (τ e).z (τ e).size = true ∧ 0 < (τ e).size ∧ len ≤ cap ∧ κ (.slice b 0 len cap) H n) := by
  unfold appendVC
  simp only [hx, keepVC]
def apB (τ : Tys) (m e b len cap : Nat) (o : Option SObj) (x : SV) (H : Heap) (n : Nat) (κ : K1) : Prop := match o with
  | some (.ints L e') => m ≤ b ∧ e' = e ∧ L.length = cap * (τ e).size ∧ len ≤ cap ∧ srcVC (τ e).size x H fun news k => (len + k) * (τ e).bytes ≤ 140737488355328 ∧ len + k ≤ 9223372036854775807 ∧
      ∀ (junk : List Int) (cap' : Nat), junk.length + (len + k) * (τ e).size = cap' * (τ e).size → κ (.slice n 0 (len + k) cap') ((n, .ints (L.take (len * (τ e).size) ++ news ++ junk) e) :: (b, .dead) :: H) (n + 1)
  | _ => False
theorem ap_sl (τ : Tys) (m e s b0 : Nat) (z : SV) (b len cap : Nat) (x : SV) (H : Heap) (n : Nat) (κ : K1) (hx : srcE x = false) : appendVC τ m ⟨.sl e, s, b0, z⟩ (.slice b 0 len cap) x H n κ = ((τ e).k ≠ .other ∧ isZ (τ e).z (τ e).size = true ∧ 0 < (τ e).size ∧ apB τ m e b len cap (hget H b) x H n κ) := by
  simp only [appendVC, apB, hx]
  rcases hget H b with _ | o
  · rfl
  · cases o <;> rfl
theorem apB_ints (τ : Tys) (m e b len cap : Nat) (L : List Int) (e' : Nat) (x : SV) (H : Heap) (n : Nat) (κ : K1) : apB τ m e b len cap (some (.ints L e')) x H n κ = (m ≤ b ∧ e' = e ∧ L.length = cap * (τ e).size ∧ len ≤ cap ∧ srcVC (τ e).size x H fun news k => (len + k) * (τ e).bytes ≤ 140737488355328 ∧ len + k ≤ 9223372036854775807 ∧
      ∀ (junk : List Int) (cap' : Nat), junk.length + (len + k) * (τ e).size = cap' * (τ e).size → κ (.slice n 0 (len + k) cap') ((n, .ints (L.take (len * (τ e).size) ++ news ++ junk) e) :: (b, .dead) :: H) (n + 1)) := rfl
def clB (m b off k : Nat) (len : Nat) (o : Option SObj) (H : Heap) (n : Nat) (κ : K1) : Prop := match o with
  | some (.ints L e') => m ≤ b ∧ 0 < len ∧ off + k ≤ L.length ∧ κ (.tup []) ((b, .ints (L.take off ++ List.replicate k 0 ++ L.drop (off + k)) e') :: H) n
  | _ => False
theorem cl_sl (τ : Tys) (m e s b0 : Nat) (z : SV) (b off len cap : Nat) (H : Heap) (n : Nat) (κ : K1) : clearVC τ m ⟨.sl e, s, b0, z⟩ (.slice b off len cap) H n κ = ((τ e).k ≠ .other ∧ isZ (τ e).z (τ e).size = true ∧ 0 < (τ e).size ∧ clB m b off (len * (τ e).size) len (hget H b) H n κ) := by
  simp only [clearVC, clB]
  rcases hget H b with _ | o
  · rfl
  · cases o <;> rfl
theorem clB_ints (m b off k len : Nat) (L : List Int) (e' : Nat) (H : Heap) (n : Nat) (κ : K1) : clB m b off k len (some (.ints L e')) H n κ = (m ≤ b ∧ 0 < len ∧ off + k ≤ L.length ∧ κ (.tup []) ((b, .ints (L.take off ++ List.replicate k 0 ++ L.drop (off + k)) e') :: H) n) := rfl

/-! Regions whose stores go into holes. -/
section
variable (X : Cx) (all : Array Oper) (rest : List Oper) (S : Env) (H : Heap) (n : Nat) (K : KR) (κ : K1)
def restH (d : Option Tmp) : K1 := fun v H n => opsVH X all rest (sput S d v) H n K
theorem oh_nil : opsVH X all [] S H n K = K S H n := rfl
theorem oh_run (d : Option Tmp) (op : Op) (ty : TypeId) (pos : String) (af : Array Edge) : opsVH X all (⟨d, op, ty, pos, af, none⟩ :: rest) S H n K = opHVC X op S H n (restH X all rest S K d) := rfl
theorem resth_eq (d : Option Tmp) (v : SV) (H' : Heap) (n' : Nat) : restH X all rest S K d v H' n' = opsVH X all rest (sput S d v) H' n' K := rfl
def ghRun (op : Op) (d : Option Tmp) : Unit → Prop := fun _ => opHVC X op S H n (restH X all rest S K d)
def ghSkip (d : Option Tmp) : Unit → Prop := fun _ => opsVH X all rest (sput S d .und) H n K
theorem ghRun_eq (op : Op) (d : Option Tmp) : ghRun X all rest S H n K op d () = opHVC X op S H n (restH X all rest S K d) := rfl
theorem ghSkip_eq (d : Option Tmp) : ghSkip X all rest S H n K d () = opsVH X all rest (sput S d .und) H n K := rfl
def ghB (v : SV) (t : Nat) (want : Bool) (op : Op) (d : Option Tmp) : Prop := match v with
  | .bool c => match want with
    | true => bSplit c (ghRun X all rest ((t, .bool true) :: S) H n K op d) (ghSkip X all rest ((t, .bool false) :: S) H n K d)
    | false => bSplit c (ghSkip X all rest ((t, .bool true) :: S) H n K d) (ghRun X all rest ((t, .bool false) :: S) H n K op d)
  | .und => opsVH X all rest (sput S d .und) H n K
  | _ => False
theorem ghB_t (c : Bool) (t : Nat) (op : Op) (d : Option Tmp) : ghB X all rest S H n K (.bool c) t true op d = bSplit c (ghRun X all rest ((t, .bool true) :: S) H n K op d) (ghSkip X all rest ((t, .bool false) :: S) H n K d) := rfl
theorem ghB_f (c : Bool) (t : Nat) (op : Op) (d : Option Tmp) : ghB X all rest S H n K (.bool c) t false op d = bSplit c (ghSkip X all rest ((t, .bool true) :: S) H n K d) (ghRun X all rest ((t, .bool false) :: S) H n K op d) := rfl
theorem ghB_und (t : Nat) (want : Bool) (op : Op) (d : Option Tmp) : ghB X all rest S H n K .und t want op d = opsVH X all rest (sput S d .und) H n K := rfl
def ghT (t : Option Tmp) (want : Bool) (op : Op) (d : Option Tmp) : Prop := match t with
  | some t => ghB X all rest S H n K (sget S t) t want op d
  | none => False
theorem ghT_some (t : Nat) (want : Bool) (op : Op) (d : Option Tmp) : ghT X all rest S H n K (some t) want op d = ghB X all rest S H n K (sget S t) t want op d := rfl
theorem oh_guard (l : List Oper) (d : Option Tmp) (op : Op) (ty : TypeId) (pos : String) (af : Array Edge) (j : Nat) (want : Bool) :
    opsVH X l.toArray (⟨d, op, ty, pos, af, some (j, want)⟩ :: rest) S H n K = ghT X l.toArray rest S H n K (dstAt l j) want op d := by
  conv => lhs; unfold opsVH
  simp only [dstAt, ghT, List.getElem?_toArray]
  cases hq : (l[j]?).bind (·.dst) with
  | none => rfl
  | some t =>
    simp only
    unfold ghB
    cases hs : sget S t with
    | bool c => cases want <;> cases c <;> simp [bSplit, ghRun, ghSkip] <;> rfl
    | _ => rfl
end
section
variable (X : Cx) (S : Env) (H : Heap) (n : Nat) (κ : K1)
theorem h_move (x : Operand) : opHVC X (.move x) S H n κ = opVC X true (.move x) S H n κ := rfl
theorem h_assign (x : Operand) : opHVC X (.assign x) S H n κ = opVC X true (.assign x) S H n κ := rfl
theorem h_pick (c a b : Operand) : opHVC X (.pick c a b) S H n κ = opVC X true (.pick c a b) S H n κ := rfl
theorem h_binOp (o : BinOp) (t : TypeId) (x y : Operand) (u : TypeId) : opHVC X (.binOp o t x y u) S H n κ = opVC X true (.binOp o t x y u) S H n κ := rfl
theorem h_unOp (o : UnOp) (t : TypeId) (x : Operand) : opHVC X (.unOp o t x) S H n κ = opVC X true (.unOp o t x) S H n κ := rfl
theorem h_extract (x : Operand) (i : Nat) : opHVC X (.extract x i) S H n κ = opVC X true (.extract x i) S H n κ := rfl
theorem h_fieldAddr (t : TypeId) (x : Operand) (f : Nat) : opHVC X (.fieldAddr t x f) S H n κ = opVC X true (.fieldAddr t x f) S H n κ := rfl
theorem h_field (t : TypeId) (x : Operand) (f : Nat) : opHVC X (.field t x f) S H n κ = opVC X true (.field t x f) S H n κ := rfl
theorem h_indexAddr (t : TypeId) (x i : Operand) : opHVC X (.indexAddr t x i) S H n κ = opVC X true (.indexAddr t x i) S H n κ := rfl
theorem h_index (t : TypeId) (x i : Operand) : opHVC X (.index t x i) S H n κ = opVC X true (.index t x i) S H n κ := rfl
theorem h_slice (t : TypeId) (x : Operand) (a b c : Option Operand) : opHVC X (.slice t x a b c) S H n κ = opVC X true (.slice t x a b c) S H n κ := rfl
theorem h_load (t : TypeId) (x : Operand) : opHVC X (.load t x) S H n κ = opVC X true (.load t x) S H n κ := rfl
theorem h_call (c : Call) : opHVC X (.call c) S H n κ = opVC X true (.call c) S H n κ := rfl
theorem h_store (t : TypeId) (x y : Operand) : opHVC X (.store t x y) S H n κ = storeHVC X.m (X.τ t) (ev S x) (ev S y) H n κ := rfl
theorem h_alloc (e : TypeId) : opHVC X (.alloc e) S H n κ = allocHVC (X.τ e) e H n κ := rfl
end
def sthB (d : TyD) (o : Option SObj) (b : Nat) (v : SV) (H : Heap) (n : Nat) (κ : K1) : Prop := match o with
  | some (.hole k e) => d.size = k ∧ match blockOf v e with
    | some o' => objSize o' = some (k, e) ∧ κ .und ((b, o') :: H) n
    | none => False
  | _ => False
theorem sth_ptr (m : Nat) (d : TyD) (b : Nat) (v : SV) (H : Heap) (n : Nat) (κ : K1) : storeHVC m d (.ptr b 0) v H n κ = (m ≤ b ∧ d.k ≠ .other ∧ sthB d (hget H b) b v H n κ) := by
  simp only [storeHVC, sthB]
  rcases hget H b with _ | o
  · rfl
  · cases o <;> rfl
theorem sth_arr (d : TyD) (k e b : Nat) (L : List Int) (H : Heap) (n : Nat) (κ : K1) : sthB d (some (.hole k e)) b (.arr L) H n κ = (d.size = k ∧ L.length = k ∧ κ .und ((b, .ints L e) :: H) n) := by simp [sthB, blockOf, objSize]
theorem sth_int (d : TyD) (k e b : Nat) (x : Int) (H : Heap) (n : Nat) (κ : K1) : sthB d (some (.hole k e)) b (.int x) H n κ = (d.size = k ∧ 1 = k ∧ κ .und ((b, .ints [x] e) :: H) n) := by simp [sthB, blockOf, objSize]
theorem ah_int (s b e : Nat) (k : Kd) (x : Int) (H : Heap) (n : Nat) (κ : K1) : allocHVC ⟨k, s, b, .int x⟩ e H n κ = (k ≠ .other ∧ κ (.ptr n 0) ((n, .hole 1 e) :: H) (n + 1)) := by simp [allocHVC, blockOf, objSize, flat]
theorem ah_arr (s b e : Nat) (k : Kd) (L : List Int) (H : Heap) (n : Nat) (κ : K1) : allocHVC ⟨k, s, b, .arr L⟩ e H n κ = (k ≠ .other ∧ κ (.ptr n 0) ((n, .hole L.length e) :: H) (n + 1)) := by simp [allocHVC, blockOf, objSize, flat]
theorem sH_nil (S : Env) (H : Heap) (κ : Heap → Prop) : startH [] S H κ = κ H := rfl
def sHO (ts : List Nat) (S : Env) (H : Heap) (κ : Heap → Prop) (b : Nat) (o : Option SObj) : Prop := match o with
  | some o => match objSize o with
    | some (k, e) => startH ts S ((b, .hole k e) :: H) κ
    | none => False
  | none => False
def sHB (ts : List Nat) (S : Env) (H : Heap) (κ : Heap → Prop) (v : SV) : Prop := match v with
  | .ptr b 0 => sHO ts S H κ b (hget H b)
  | _ => False
theorem sH_cons (t : Nat) (ts : List Nat) (S : Env) (H : Heap) (κ : Heap → Prop) : startH (t :: ts) S H κ = sHB ts S H κ (sget S t) := by
  conv => lhs; unfold startH
  unfold sHB sHO
  rfl
theorem sHB_ptr (ts : List Nat) (S : Env) (H : Heap) (κ : Heap → Prop) (b : Nat) : sHB ts S H κ (.ptr b 0) = sHO ts S H κ b (hget H b) := rfl
theorem sHO_ints (ts : List Nat) (S : Env) (H : Heap) (κ : Heap → Prop) (b : Nat) (L : List Int) (e : Nat) : sHO ts S H κ b (some (.ints L e)) = startH ts S ((b, .hole L.length e) :: H) κ := rfl
theorem sHO_bls (ts : List Nat) (S : Env) (H : Heap) (κ : Heap → Prop) (b : Nat) (L : List Bool) (e : Nat) : sHO ts S H κ b (some (.bls L e)) = startH ts S ((b, .hole L.length e) :: H) κ := rfl
/-! The equations in three bundles. -/
theorem SB : type_of% (
  And.intro @bs_true <|
  And.intro @bs_false <|
  And.intro @bs_not <|
  And.intro @bs_dec <|
  And.intro @codeU_eq <|
  And.intro @cv_skip <|
  And.intro @cv_region <|
  And.intro @regB_none <|
  And.intro @endK_eq <|
  And.intro @regB_some <|
  And.intro @regB_tree <|
  And.intro @jk <|
  And.intro @treeK_eq <|
  And.intro @tv_done <|
  And.intro @tv_stop <|
  And.intro @opAt_some <|
  And.intro @tv_one <|
  And.intro @tv_alt <|
  And.intro @o_insert <|
  And.intro @cv_seq <|
  And.intro @condB_bool <|
  And.intro @cv_cond <|
  And.intro @cv_block <|
  And.intro @cv_exit <|
  And.intro @cv_ret <|
  And.intro @sk_normal <|
  And.intro @sk_exit <|
  And.intro @sk_ret <|
  And.intro @bk_normal <|
  And.intro @bk_exit <|
  And.intro @bk_ret <|
  And.intro @nk <|
  And.intro @lk_exit <|
  And.intro @lk_ret <|
  And.intro @rk_normal <|
  And.intro @rk_ret <|
  And.intro @rv_nil <|
  And.intro @rv_tmp <|
  And.intro @rvK_eq <|
  And.intro @rv_cell <|
  And.intro @ov_nil <|
  And.intro @ov_run <|
  And.intro @rest_eq <|
  And.intro @gdRun_eq <|
  And.intro @gdSkip_eq <|
  And.intro @gdB_t <|
  And.intro @gdB_f <|
  And.intro @gdB_und <|
  And.intro @gdT_some <|
  And.intro @ov_guard <|
  And.intro @sget_cons <|
  And.intro @sput_some <|
  And.intro @sput_none <|
  And.intro @tl_cons <|
  And.intro @tl_nil <|
  And.intro @ev_tmp <|
  And.intro @ev_func <|
  And.intro @ev_int <|
  And.intro @ev_bool <|
  And.intro @hv_none <|
  And.intro @hv_some <|
  And.intro @ev_nils <|
  And.intro @ev_agg <|
  And.intro @o_move <|
  And.intro @o_assign <|
  And.intro @o_pick <|
  And.intro @o_load <|
  And.intro @o_bin <|
  And.intro @o_conv <|
  And.intro @o_un <|
  And.intro @o_extract <|
  And.intro @o_makeFunc <|
  And.intro @o_fieldAddr <|
  And.intro @o_field <|
  And.intro @o_nilCheck <|
  And.intro @o_indexAddr <|
  And.intro @o_index <|
  And.intro @o_lookup <|
  And.intro @o_mapUpdate <|
  And.intro @o_makeMap <|
  And.intro @o_slice <|
  And.intro @o_build <|
  And.intro @o_len <|
  And.intro @o_min <|
  And.intro @o_max <|
  And.intro @o_append <|
  And.intro @o_clear <|
  And.intro @o_alloc <|
  And.intro @o_box <|
  And.intro @o_store <|
  And.intro @o_buildSlice <|
  And.intro @o_makeSlice <|
  And.intro @o_call <|
  And.intro @o_callD <|
  And.intro @isIn_nil <|
  And.intro @isIn_cons <|
  And.intro @isIn_tmp <|
  And.intro @call_fn <|
  And.intro @callPG_some <|
  And.intro @callPG_none <|
  And.intro @callG_some <|
  And.intro @resP_some <|
  And.intro @cellM_some <|
  And.intro @pickU_eq <|
  And.intro @pick_bool <|
  And.intro @load_ptr <|
  And.intro @load_int <|
  And.intro @load_arr <|
  And.intro @load_str <|
  And.intro @load_wint <|
  And.intro @load_warr <|
  And.intro @load_wstr <|
  And.intro @load_bool <|
  And.intro @load_cellsI <|
  And.intro @load_cellsB <|
  And.intro @load_cellsL <|
  And.intro @load_cellsM <|
  And.intro @load_cellsS <|
  And.intro @load_cellsU <|
  And.intro @load_winU <|
  And.intro @load_cellsR <|
  And.intro @bin_ii <|
  And.intro @i_add <|
  And.intro @i_sub <|
  And.intro @i_mul <|
  And.intro @i_quo <|
  And.intro @i_rem <|
  And.intro @i_eql <|
  And.intro @i_neq <|
  And.intro @i_lss <|
  And.intro @i_leq <|
  And.intro @i_gtr <|
  And.intro @i_geq <|
  And.intro @ar_t <|
  And.intro @ar_f <|
  And.intro @bin_ll <|
  And.intro @bin_li <|
  And.intro @n_add <|
  And.intro @n_sub <|
  And.intro @n_mul <|
  And.intro @n_and <|
  And.intro @n_xor <|
  And.intro @n_shr <|
  And.intro @cv_int <|
  And.intro @cv_lit <|
  And.intro @ci_int <|
  And.intro @ci_num <|
  And.intro @ev_u64 <|
  And.intro @ev_u8 <|
  And.intro @bin_bb_eql <|
  And.intro @bin_bb_neq <|
  And.intro @bin_aa_eql <|
  And.intro @bin_aa_neq <|
  And.intro @un_not <|
  And.intro @un_neg <|
  And.intro @extract_zero <|
  And.intro @extract_succ <|
  And.intro @makeFunc_func <|
  And.intro @fa_str <|
  And.intro @f_str <|
  And.intro @f_stc <|
  And.intro @nil_ptr <|
  And.intro @part_int <|
  And.intro @part_arr <|
  And.intro @part_str <|
  And.intro @ia_arr <|
  And.intro @ia_sl <|
  And.intro @ix_arr <|
  And.intro @sl_arr <|
  And.intro @sl_sl <|
  And.intro @sl_nils <|
  And.intro @bnd_none <|
  And.intro @bnd_some <|
  And.intro @len_sl <|
  And.intro @len_mp <|
  And.intro @lenMB_mp <|
  And.intro @lk_mp <|
  And.intro @lkB_mp <|
  And.intro @lkR_t <|
  And.intro @lkR_f <|
  And.intro @mvS_t <|
  And.intro @mvS_f <|
  And.intro @mz_t <|
  And.intro @mz_f <|
  And.intro @mu_mp <|
  And.intro @muB_t <|
  And.intro @muB_f <|
  And.intro @mk_mp <|
  And.intro @mkB_t <|
  And.intro @mkB_f <|
  And.intro @len_nils <|
  And.intro @b_len <|
  And.intro @b_min <|
  And.intro @b_max <|
  And.intro @new_int <|
  And.intro @new_arr <|
  And.intro @new_bool <|
  And.intro @new_barr <|
  And.intro @new_ptr <|
  And.intro @new_slice <|
  And.intro @new_nils <|
  And.intro @new_mp <|
  And.intro @new_stc <|
  And.intro @new_fn <|
  And.intro @store_ptr <|
  And.intro @store_int <|
  And.intro @store_arr <|
  And.intro @store_bool <|
  And.intro @store_cellsI <|
  And.intro @store_cellsB <|
  And.intro @store_cellsP <|
  And.intro @store_cellsL <|
  And.intro @store_cellsN <|
  And.intro @store_cellsF <|
  And.intro @store_cellsU <|
  And.intro @store_cellsM <|
  And.intro @store_cellsR <|
  And.intro @cut_zero <|
  And.intro @bdM_some <|
  And.intro @bd_arr <|
  And.intro @bd_str <|
  And.intro @fA_nil <|
  And.intro @fA_int <|
  And.intro @fA_arr <|
  And.intro @fS_nil <|
  And.intro @fS_cons <|
  And.intro @fSt_int <|
  And.intro @fSt_arr <|
  And.intro @bdT_some <|
  And.intro @bd_stc <|
  And.intro @fR_nil <|
  And.intro @fR_cons <|
  And.intro @fRt_some <|
  And.intro @rep2_set <|
  And.intro @rep3_set <|
  And.intro @bsM_some <|
  And.intro @bs_sl <|
  And.intro @msM_nils <|
  And.intro @msM_int <|
  And.intro @msM_arr <|
  And.intro @ms_sl <|
  And.intro @isZ_int <|
  And.intro @isZ_arr <|
  And.intro @src_sl <|
  And.intro @srcB_ints <|
  And.intro @srcE_zero <|
  And.intro @srcE_one <|
  And.intro @srcE_succ <|
  And.intro @srcE_nils <|
  And.intro @ap_nils <|
  And.intro @ap_e_nils <|
  And.intro @ap_e_sl <|
  And.intro @ap_sl <|
  And.intro @apB_ints <|
  And.intro @cl_sl <|
  And.intro @clB_ints <|
  And.intro @oh_nil <|
  And.intro @oh_run <|
  And.intro @resth_eq <|
  And.intro @ghRun_eq <|
  And.intro @ghSkip_eq <|
  And.intro @ghB_t <|
  And.intro @ghB_f <|
  And.intro @ghB_und <|
  And.intro @ghT_some <|
  And.intro @oh_guard <|
  And.intro @h_move <|
  And.intro @h_assign <|
  And.intro @h_pick <|
  And.intro @h_binOp <|
  And.intro @h_unOp <|
  And.intro @h_extract <|
  And.intro @h_fieldAddr <|
  And.intro @h_field <|
  And.intro @h_indexAddr <|
  And.intro @h_index <|
  And.intro @h_slice <|
  And.intro @h_load <|
  And.intro @h_call <|
  And.intro @h_store <|
  And.intro @h_alloc <|
  And.intro @sth_ptr <|
  And.intro @sth_arr <|
  And.intro @sth_int <|
  And.intro @ah_int <|
  And.intro @ah_arr <|
  And.intro @sH_nil <|
  And.intro @sH_cons <|
  And.intro @sHB_ptr <|
  And.intro @sHO_ints <|
  And.intro @sHO_bls <|
  And.intro @dstAt_zero <|
  And.intro @dstAt_succ <|
  And.intro @hget_cons <|
  And.intro @List.map_cons.{0, 0} <|
  And.intro @List.map_nil.{0, 0} <|
  And.intro @List.all_cons.{0} <|
  And.intro @List.all_nil.{0} <|
  And.intro @List.reverse_cons.{0} <|
  And.intro @List.reverse_nil.{0} <|
  And.intro @List.nil_append.{0} <|
  And.intro @List.cons_append.{0} <|
  And.intro @List.append_nil.{0} <|
  And.intro @Option.map_some.{0, 0} <|
  And.intro @Option.map_none.{0, 0} <|
  And.intro @Bool.and_true <|
  And.intro @Bool.true_and <|
  And.intro @Bool.and_self <|
  And.intro @true_and <|
  And.intro @and_true <|
  And.intro @not_false_eq_true <|
  And.intro @Nat.zero_add <|
  And.intro @Nat.add_zero <|
  And.intro @Nat.succ_ne_self <|
  And.intro @List.getElem?_cons_zero.{0} <|
  And.intro @List.getElem?_cons_succ.{0} <|
  And.intro @SV.int.injEq <|
  And.intro @SV.bool.injEq <|
  And.intro @SV.arr.injEq <|
  And.intro @SV.tup.injEq <|
  And.intro @List.cons.injEq.{0} <|
  And.intro @Nat.le_refl <|
  And.intro @Nat.zero_le <|
  And.intro @Nat.one_ne_zero <|
  And.intro @List.drop_zero.{0} <|
  And.intro @beq_self_eq_true.{0} <|
  And.intro @List.set_cons_zero.{0} <|
  And.intro @List.set_cons_succ.{0} <|
  And.intro @List.drop_succ_cons.{0} <|
  And.intro @List.drop_nil.{0} <|
  And.intro @Bool.not_true <|
  And.intro @Bool.not_false <|
  And.intro @decide_true <|
  And.intro @decide_false <| @decide_eq_true_eq) :=
  And.intro @bs_true <|
  And.intro @bs_false <|
  And.intro @bs_not <|
  And.intro @bs_dec <|
  And.intro @codeU_eq <|
  And.intro @cv_skip <|
  And.intro @cv_region <|
  And.intro @regB_none <|
  And.intro @endK_eq <|
  And.intro @regB_some <|
  And.intro @regB_tree <|
  And.intro @jk <|
  And.intro @treeK_eq <|
  And.intro @tv_done <|
  And.intro @tv_stop <|
  And.intro @opAt_some <|
  And.intro @tv_one <|
  And.intro @tv_alt <|
  And.intro @o_insert <|
  And.intro @cv_seq <|
  And.intro @condB_bool <|
  And.intro @cv_cond <|
  And.intro @cv_block <|
  And.intro @cv_exit <|
  And.intro @cv_ret <|
  And.intro @sk_normal <|
  And.intro @sk_exit <|
  And.intro @sk_ret <|
  And.intro @bk_normal <|
  And.intro @bk_exit <|
  And.intro @bk_ret <|
  And.intro @nk <|
  And.intro @lk_exit <|
  And.intro @lk_ret <|
  And.intro @rk_normal <|
  And.intro @rk_ret <|
  And.intro @rv_nil <|
  And.intro @rv_tmp <|
  And.intro @rvK_eq <|
  And.intro @rv_cell <|
  And.intro @ov_nil <|
  And.intro @ov_run <|
  And.intro @rest_eq <|
  And.intro @gdRun_eq <|
  And.intro @gdSkip_eq <|
  And.intro @gdB_t <|
  And.intro @gdB_f <|
  And.intro @gdB_und <|
  And.intro @gdT_some <|
  And.intro @ov_guard <|
  And.intro @sget_cons <|
  And.intro @sput_some <|
  And.intro @sput_none <|
  And.intro @tl_cons <|
  And.intro @tl_nil <|
  And.intro @ev_tmp <|
  And.intro @ev_func <|
  And.intro @ev_int <|
  And.intro @ev_bool <|
  And.intro @hv_none <|
  And.intro @hv_some <|
  And.intro @ev_nils <|
  And.intro @ev_agg <|
  And.intro @o_move <|
  And.intro @o_assign <|
  And.intro @o_pick <|
  And.intro @o_load <|
  And.intro @o_bin <|
  And.intro @o_conv <|
  And.intro @o_un <|
  And.intro @o_extract <|
  And.intro @o_makeFunc <|
  And.intro @o_fieldAddr <|
  And.intro @o_field <|
  And.intro @o_nilCheck <|
  And.intro @o_indexAddr <|
  And.intro @o_index <|
  And.intro @o_lookup <|
  And.intro @o_mapUpdate <|
  And.intro @o_makeMap <|
  And.intro @o_slice <|
  And.intro @o_build <|
  And.intro @o_len <|
  And.intro @o_min <|
  And.intro @o_max <|
  And.intro @o_append <|
  And.intro @o_clear <|
  And.intro @o_alloc <|
  And.intro @o_box <|
  And.intro @o_store <|
  And.intro @o_buildSlice <|
  And.intro @o_makeSlice <|
  And.intro @o_call <|
  And.intro @o_callD <|
  And.intro @isIn_nil <|
  And.intro @isIn_cons <|
  And.intro @isIn_tmp <|
  And.intro @call_fn <|
  And.intro @callPG_some <|
  And.intro @callPG_none <|
  And.intro @callG_some <|
  And.intro @resP_some <|
  And.intro @cellM_some <|
  And.intro @pickU_eq <|
  And.intro @pick_bool <|
  And.intro @load_ptr <|
  And.intro @load_int <|
  And.intro @load_arr <|
  And.intro @load_str <|
  And.intro @load_wint <|
  And.intro @load_warr <|
  And.intro @load_wstr <|
  And.intro @load_bool <|
  And.intro @load_cellsI <|
  And.intro @load_cellsB <|
  And.intro @load_cellsL <|
  And.intro @load_cellsM <|
  And.intro @load_cellsS <|
  And.intro @load_cellsU <|
  And.intro @load_winU <|
  And.intro @load_cellsR <|
  And.intro @bin_ii <|
  And.intro @i_add <|
  And.intro @i_sub <|
  And.intro @i_mul <|
  And.intro @i_quo <|
  And.intro @i_rem <|
  And.intro @i_eql <|
  And.intro @i_neq <|
  And.intro @i_lss <|
  And.intro @i_leq <|
  And.intro @i_gtr <|
  And.intro @i_geq <|
  And.intro @ar_t <|
  And.intro @ar_f <|
  And.intro @bin_ll <|
  And.intro @bin_li <|
  And.intro @n_add <|
  And.intro @n_sub <|
  And.intro @n_mul <|
  And.intro @n_and <|
  And.intro @n_xor <|
  And.intro @n_shr <|
  And.intro @cv_int <|
  And.intro @cv_lit <|
  And.intro @ci_int <|
  And.intro @ci_num <|
  And.intro @ev_u64 <|
  And.intro @ev_u8 <|
  And.intro @bin_bb_eql <|
  And.intro @bin_bb_neq <|
  And.intro @bin_aa_eql <|
  And.intro @bin_aa_neq <|
  And.intro @un_not <|
  And.intro @un_neg <|
  And.intro @extract_zero <|
  And.intro @extract_succ <|
  And.intro @makeFunc_func <|
  And.intro @fa_str <|
  And.intro @f_str <|
  And.intro @f_stc <|
  And.intro @nil_ptr <|
  And.intro @part_int <|
  And.intro @part_arr <|
  And.intro @part_str <|
  And.intro @ia_arr <|
  And.intro @ia_sl <|
  And.intro @ix_arr <|
  And.intro @sl_arr <|
  And.intro @sl_sl <|
  And.intro @sl_nils <|
  And.intro @bnd_none <|
  And.intro @bnd_some <|
  And.intro @len_sl <|
  And.intro @len_mp <|
  And.intro @lenMB_mp <|
  And.intro @lk_mp <|
  And.intro @lkB_mp <|
  And.intro @lkR_t <|
  And.intro @lkR_f <|
  And.intro @mvS_t <|
  And.intro @mvS_f <|
  And.intro @mz_t <|
  And.intro @mz_f <|
  And.intro @mu_mp <|
  And.intro @muB_t <|
  And.intro @muB_f <|
  And.intro @mk_mp <|
  And.intro @mkB_t <|
  And.intro @mkB_f <|
  And.intro @len_nils <|
  And.intro @b_len <|
  And.intro @b_min <|
  And.intro @b_max <|
  And.intro @new_int <|
  And.intro @new_arr <|
  And.intro @new_bool <|
  And.intro @new_barr <|
  And.intro @new_ptr <|
  And.intro @new_slice <|
  And.intro @new_nils <|
  And.intro @new_mp <|
  And.intro @new_stc <|
  And.intro @new_fn <|
  And.intro @store_ptr <|
  And.intro @store_int <|
  And.intro @store_arr <|
  And.intro @store_bool <|
  And.intro @store_cellsI <|
  And.intro @store_cellsB <|
  And.intro @store_cellsP <|
  And.intro @store_cellsL <|
  And.intro @store_cellsN <|
  And.intro @store_cellsF <|
  And.intro @store_cellsU <|
  And.intro @store_cellsM <|
  And.intro @store_cellsR <|
  And.intro @cut_zero <|
  And.intro @bdM_some <|
  And.intro @bd_arr <|
  And.intro @bd_str <|
  And.intro @fA_nil <|
  And.intro @fA_int <|
  And.intro @fA_arr <|
  And.intro @fS_nil <|
  And.intro @fS_cons <|
  And.intro @fSt_int <|
  And.intro @fSt_arr <|
  And.intro @bdT_some <|
  And.intro @bd_stc <|
  And.intro @fR_nil <|
  And.intro @fR_cons <|
  And.intro @fRt_some <|
  And.intro @rep2_set <|
  And.intro @rep3_set <|
  And.intro @bsM_some <|
  And.intro @bs_sl <|
  And.intro @msM_nils <|
  And.intro @msM_int <|
  And.intro @msM_arr <|
  And.intro @ms_sl <|
  And.intro @isZ_int <|
  And.intro @isZ_arr <|
  And.intro @src_sl <|
  And.intro @srcB_ints <|
  And.intro @srcE_zero <|
  And.intro @srcE_one <|
  And.intro @srcE_succ <|
  And.intro @srcE_nils <|
  And.intro @ap_nils <|
  And.intro @ap_e_nils <|
  And.intro @ap_e_sl <|
  And.intro @ap_sl <|
  And.intro @apB_ints <|
  And.intro @cl_sl <|
  And.intro @clB_ints <|
  And.intro @oh_nil <|
  And.intro @oh_run <|
  And.intro @resth_eq <|
  And.intro @ghRun_eq <|
  And.intro @ghSkip_eq <|
  And.intro @ghB_t <|
  And.intro @ghB_f <|
  And.intro @ghB_und <|
  And.intro @ghT_some <|
  And.intro @oh_guard <|
  And.intro @h_move <|
  And.intro @h_assign <|
  And.intro @h_pick <|
  And.intro @h_binOp <|
  And.intro @h_unOp <|
  And.intro @h_extract <|
  And.intro @h_fieldAddr <|
  And.intro @h_field <|
  And.intro @h_indexAddr <|
  And.intro @h_index <|
  And.intro @h_slice <|
  And.intro @h_load <|
  And.intro @h_call <|
  And.intro @h_store <|
  And.intro @h_alloc <|
  And.intro @sth_ptr <|
  And.intro @sth_arr <|
  And.intro @sth_int <|
  And.intro @ah_int <|
  And.intro @ah_arr <|
  And.intro @sH_nil <|
  And.intro @sH_cons <|
  And.intro @sHB_ptr <|
  And.intro @sHO_ints <|
  And.intro @sHO_bls <|
  And.intro @dstAt_zero <|
  And.intro @dstAt_succ <|
  And.intro @hget_cons <|
  And.intro @List.map_cons.{0, 0} <|
  And.intro @List.map_nil.{0, 0} <|
  And.intro @List.all_cons.{0} <|
  And.intro @List.all_nil.{0} <|
  And.intro @List.reverse_cons.{0} <|
  And.intro @List.reverse_nil.{0} <|
  And.intro @List.nil_append.{0} <|
  And.intro @List.cons_append.{0} <|
  And.intro @List.append_nil.{0} <|
  And.intro @Option.map_some.{0, 0} <|
  And.intro @Option.map_none.{0, 0} <|
  And.intro @Bool.and_true <|
  And.intro @Bool.true_and <|
  And.intro @Bool.and_self <|
  And.intro @true_and <|
  And.intro @and_true <|
  And.intro @not_false_eq_true <|
  And.intro @Nat.zero_add <|
  And.intro @Nat.add_zero <|
  And.intro @Nat.succ_ne_self <|
  And.intro @List.getElem?_cons_zero.{0} <|
  And.intro @List.getElem?_cons_succ.{0} <|
  And.intro @SV.int.injEq <|
  And.intro @SV.bool.injEq <|
  And.intro @SV.arr.injEq <|
  And.intro @SV.tup.injEq <|
  And.intro @List.cons.injEq.{0} <|
  And.intro @Nat.le_refl <|
  And.intro @Nat.zero_le <|
  And.intro @Nat.one_ne_zero <|
  And.intro @List.drop_zero.{0} <|
  And.intro @beq_self_eq_true.{0} <|
  And.intro @List.set_cons_zero.{0} <|
  And.intro @List.set_cons_succ.{0} <|
  And.intro @List.drop_succ_cons.{0} <|
  And.intro @List.drop_nil.{0} <|
  And.intro @Bool.not_true <|
  And.intro @Bool.not_false <|
  And.intro @decide_true <|
  And.intro @decide_false <| @decide_eq_true_eq
theorem ZB : type_of% (
  And.intro @Nat.zero_mul <|
  And.intro @Nat.one_mul <|
  And.intro @Nat.mul_one <|
  And.intro @Int.cast_ofNat_Int <|
  And.intro @Int.toNat_zero <|
  And.intro @Int.toNat_one <|
  And.intro @Int.le_refl <|
  And.intro @Int.toNat_natCast <|
  And.intro @List.length_replicate.{0} <|
  And.intro @List.length_set.{0} <|
  And.intro @List.length_cons.{0} <|
  And.intro @List.length_nil.{0} <|
  And.intro @List.take_zero.{0} <|
  And.intro @List.drop_replicate.{0} <|
  And.intro @List.replicate_zero.{0} <|
  And.intro @List.take_succ_cons.{0} <|
  And.intro @Nat.sub_self <|
  And.intro @Nat.lt_add_one <|
  And.intro @Nat.zero_lt_one <|
  And.intro @Nat.one_lt_two <|
  And.intro @Nat.zero_lt_two <|
  And.intro @Nat.one_pos <|
  And.intro @Nat.zero_lt_succ <|
  And.intro @Nat.sub_zero <|
  And.intro @Bool.false_and <|
  And.intro @Bool.and_false <|
  And.intro @Bool.false_eq_true <|
  And.intro @false_implies <| @true_implies) :=
  And.intro @Nat.zero_mul <|
  And.intro @Nat.one_mul <|
  And.intro @Nat.mul_one <|
  And.intro @Int.cast_ofNat_Int <|
  And.intro @Int.toNat_zero <|
  And.intro @Int.toNat_one <|
  And.intro @Int.le_refl <|
  And.intro @Int.toNat_natCast <|
  And.intro @List.length_replicate.{0} <|
  And.intro @List.length_set.{0} <|
  And.intro @List.length_cons.{0} <|
  And.intro @List.length_nil.{0} <|
  And.intro @List.take_zero.{0} <|
  And.intro @List.drop_replicate.{0} <|
  And.intro @List.replicate_zero.{0} <|
  And.intro @List.take_succ_cons.{0} <|
  And.intro @Nat.sub_self <|
  And.intro @Nat.lt_add_one <|
  And.intro @Nat.zero_lt_one <|
  And.intro @Nat.one_lt_two <|
  And.intro @Nat.zero_lt_two <|
  And.intro @Nat.one_pos <|
  And.intro @Nat.zero_lt_succ <|
  And.intro @Nat.sub_zero <|
  And.intro @Bool.false_and <|
  And.intro @Bool.and_false <|
  And.intro @Bool.false_eq_true <|
  And.intro @false_implies <| @true_implies
theorem LB : type_of% (
  And.intro @sget_cons <|
  And.intro @hget_cons <|
  And.intro @and_true <|
  And.intro @true_and <|
  And.intro @and_self <|
  And.intro @SV.int.injEq <|
  And.intro @SV.bool.injEq <|
  And.intro @SV.arr.injEq <|
  And.intro @SV.barr.injEq <|
  And.intro @SV.ptr.injEq <|
  And.intro @SV.slice.injEq <|
  And.intro @SV.fn.injEq <|
  And.intro @SV.tup.injEq <|
  And.intro @SV.stc.injEq <|
  And.intro @SV.mp.injEq <|
  And.intro @SObj.ints.injEq <|
  And.intro @SObj.bls.injEq <|
  And.intro @SObj.cells.injEq <|
  And.intro @Option.some.injEq.{0} <|
  And.intro @List.cons.injEq.{0} <|
  And.intro @Nat.le_refl <|
  And.intro @Nat.zero_le <|
  And.intro @Int.natCast_add <|
  And.intro @Int.natCast_one <|
  And.intro @Int.cast_ofNat_Int <|
  And.intro @Nat.succ_ne_self <|
  And.intro @Nat.lt_add_one <|
  And.intro @false_implies <|
  And.intro @Nat.lt_irrefl <|
  And.intro @Nat.lt_one_iff <|
  And.intro @Nat.one_pos <|
  And.intro @Nat.zero_lt_one <| @true_implies) :=
  And.intro @sget_cons <|
  And.intro @hget_cons <|
  And.intro @and_true <|
  And.intro @true_and <|
  And.intro @and_self <|
  And.intro @SV.int.injEq <|
  And.intro @SV.bool.injEq <|
  And.intro @SV.arr.injEq <|
  And.intro @SV.barr.injEq <|
  And.intro @SV.ptr.injEq <|
  And.intro @SV.slice.injEq <|
  And.intro @SV.fn.injEq <|
  And.intro @SV.tup.injEq <|
  And.intro @SV.stc.injEq <|
  And.intro @SV.mp.injEq <|
  And.intro @SObj.ints.injEq <|
  And.intro @SObj.bls.injEq <|
  And.intro @SObj.cells.injEq <|
  And.intro @Option.some.injEq.{0} <|
  And.intro @List.cons.injEq.{0} <|
  And.intro @Nat.le_refl <|
  And.intro @Nat.zero_le <|
  And.intro @Int.natCast_add <|
  And.intro @Int.natCast_one <|
  And.intro @Int.cast_ofNat_Int <|
  And.intro @Nat.succ_ne_self <|
  And.intro @Nat.lt_add_one <|
  And.intro @false_implies <|
  And.intro @Nat.lt_irrefl <|
  And.intro @Nat.lt_one_iff <|
  And.intro @Nat.one_pos <|
  And.intro @Nat.zero_lt_one <| @true_implies
end Go.Proofs.Ytnlbljikbonioaa
