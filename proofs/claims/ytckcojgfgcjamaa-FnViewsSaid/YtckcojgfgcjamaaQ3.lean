/- Texts of this claim, joined (Evl, Ty, Fn, A, B). -/
import Derived.Test.YtckcojgfgcjamaaQ1
import Derived.Test.YtckcojgfgcjamaaQ2
set_option maxRecDepth 100000
set_option linter.unusedSimpArgs false
set_option linter.unusedVariables false
namespace Go.Proofs.Ytckcojgfgcjamaa
open Go Go.RowKit

/-- A test: what follows is kept closed until it is decided. -/
def bSplit (c : Bool) (A B : Unit → Prop) : Prop := (c = true → A ()) ∧ (c = false → B ())
theorem bs_true (A B : Unit → Prop) : bSplit true A B = A () := by simp [bSplit]
theorem bs_false (A B : Unit → Prop) : bSplit false A B = B () := by simp [bSplit]
theorem bs_not (c : Bool) (A B : Unit → Prop) : bSplit (!c) A B = bSplit c B A := by cases c <;> simp [bSplit]
theorem bs_dec (p : Prop) [Decidable p] (A B : Unit → Prop) : bSplit (decide p) A B = ((p → A ()) ∧ (¬ p → B ())) := by simp [bSplit]
def codeU (X : Cx) (p : Nat) (c : Code) (S : Env) (H : Heap) (n : Nat) (K : KE) : Unit → Prop := fun _ => codeVC X p c S H n K
theorem codeU_eq (X : Cx) (p : Nat) (c : Code) (S : Env) (H : Heap) (n : Nat) (K : KE) : codeU X p c S H n K () = codeVC X p c S H n K := rfl
theorem cv_skip (X : Cx) (p : Nat) (S : Env) (H : Heap) (n : Nat) (K : KE) : codeVC X p .skip S H n K = K .normal S H n := rfl
theorem cv_region (X : Cx) (p id : Nat) (l : List Oper) (draw : Bool) (S : Env) (H : Heap) (n : Nat) (K : KE) : codeVC X p (.region id l.toArray draw) S H n K = regB X p (X.hr.lookup id) draw l.toArray l S H n K := rfl
theorem regB_none (X : Cx) (p : Nat) (draw : Bool) (ops : Array Oper) (l : List Oper) (S : Env) (H : Heap) (n : Nat) (K : KE) : regB X p none draw ops l S H n K = opsVC X draw ops l S H n (normK K) := rfl
def endK (X : Cx) (ops : Array Oper) (l : List Oper) (S : Env) (n : Nat) (K : KE) : Heap → Prop := fun H' => opsVH X ops l S H' n (normK K)
theorem endK_eq (X : Cx) (ops : Array Oper) (l : List Oper) (S : Env) (n : Nat) (K : KE) (H' : Heap) : endK X ops l S n K H' = opsVH X ops l S H' n (normK K) := rfl
theorem regB_some (X : Cx) (p : Nat) (ts : List Nat) (draw : Bool) (ops : Array Oper) (l : List Oper) (S : Env) (H : Heap) (n : Nat) (K : KE) : regB X p (some (.holes ts)) draw ops l S H n K = (draw = true ∧ startH ts S H (endK X ops l S n K)) := rfl
/-- A region walked by a tree: what it comes to is told by hand. -/
def joinVC (X : Cx) (p : Nat) (T : OT) (l : List Oper) (S : Env) (H : Heap) (n : Nat) (K : KE) : Prop := ∃ (ι : Type) (S' : ι → Env) (H' : ι → Heap) (n' : ι → Nat), treeVC X l.toArray T S H n (joinK p X.m S' H' n') ∧ ∀ i, K .normal (S' i) (H' i) (n' i)
theorem regB_tree (X : Cx) (p : Nat) (T : OT) (l : List Oper) (S : Env) (H : Heap) (n : Nat) (K : KE) : regB X p (some (.tree T)) true l.toArray l S H n K = joinVC X p T l S H n K := by simp [regB, joinVC]
theorem jk {ι : Type} (p m : Nat) (S : ι → Env) (H : ι → Heap) (n : ι → Nat) (S' H' n') : joinK p m S H n S' H' n' = ∃ i, Sub p m S' H' (S i) (H i) (n i) := rfl
def treeK (X : Cx) (all : Array Oper) (T : OT) (K : KR) : KR := fun S' H' n' => treeVC X all T S' H' n' K
theorem treeK_eq (X : Cx) (all : Array Oper) (T : OT) (K : KR) (S' H' n') : treeK X all T K S' H' n' = treeVC X all T S' H' n' K := rfl
theorem tv_done (X : Cx) (all : Array Oper) (S : Env) (H : Heap) (n : Nat) (K : KR) : treeVC X all .done S H n K = K S H n := rfl
theorem tv_stop (X : Cx) (all : Array Oper) (S : Env) (H : Heap) (n : Nat) (K : KR) : treeVC X all .stop S H n K = True := rfl
def opAt (X : Cx) (all : Array Oper) (o : Option Oper) (S : Env) (H : Heap) (n : Nat) (K : KR) : Prop := match o with
  | some o => opsVC X true all [o] S H n K
  | none => False
theorem opAt_some (X : Cx) (all : Array Oper) (o : Oper) (S : Env) (H : Heap) (n : Nat) (K : KR) : opAt X all (some o) S H n K = opsVC X true all [o] S H n K := rfl
theorem tv_one (X : Cx) (l : List Oper) (k : Nat) (t : OT) (S : Env) (H : Heap) (n : Nat) (K : KR) : treeVC X l.toArray (.one k t) S H n K = opAt X l.toArray l[k]? S H n (treeK X l.toArray t K) := by
  conv => lhs; unfold treeVC
  rw [List.getElem?_toArray]; unfold opAt treeK; rfl
theorem tv_alt (X : Cx) (l : List Oper) (k : Nat) (t r : OT) (S : Env) (H : Heap) (n : Nat) (K : KR) : treeVC X l.toArray (.alt k t r) S H n K = (opAt X l.toArray l[k]? S H n (treeK X l.toArray t K) ∧ treeVC X l.toArray r S H n K) := by
  conv => lhs; unfold treeVC
  rw [List.getElem?_toArray]; unfold opAt treeK; rfl
theorem o_insert (X : Cx) (q : Bool) (S : Env) (H : Heap) (n : Nat) (κ : K1) (t : TypeId) (x i v : Operand) : opVC X q (.insert t x i v) S H n κ = mapUpdateVC X.P X.m (X.τ t) (ev S x) (ev S i) (ev S v) H n κ := rfl
theorem cv_seq (X : Cx) (p : Nat) (a b : Code) (S : Env) (H : Heap) (n : Nat) (K : KE) : codeVC X p (.seq a b) S H n K = codeVC X p a S H n (seqK (codeVC X p b) K) := rfl
def condB (X : Cx) (p : Nat) (v : SV) (x y : Code) (S : Env) (H : Heap) (n : Nat) (K : KE) : Prop := match v with
  | .bool b => bSplit b (codeU X p x S H n K) (codeU X p y S H n K)
  | _ => False
theorem condB_bool (X : Cx) (p : Nat) (b : Bool) (x y : Code) (S : Env) (H : Heap) (n : Nat) (K : KE) : condB X p (.bool b) x y S H n K = bSplit b (codeU X p x S H n K) (codeU X p y S H n K) := rfl
theorem cv_cond (X : Cx) (p : Nat) (c : Operand) (x y : Code) (S : Env) (H : Heap) (n : Nat) (K : KE) : codeVC X p (.cond c x y) S H n K = condB X p (ev S c) x y S H n K := by
  conv => lhs; unfold codeVC
  unfold condB
  cases ev S c <;> rfl
theorem cv_block (X : Cx) (p id : Nat) (c : Code) (S : Env) (H : Heap) (n : Nat) (K : KE) : codeVC X p (.block id c) S H n K = codeVC X p c S H n (blockK id K) := rfl
theorem cv_exit (X : Cx) (p id : Nat) (S : Env) (H : Heap) (n : Nat) (K : KE) : codeVC X p (.exit id) S H n K = K (.exit id) S H n := rfl
theorem cv_ret (X : Cx) (p : Nat) (S : Env) (H : Heap) (n : Nat) (K : KE) : codeVC X p .ret S H n K = K .ret S H n := rfl
theorem loop_introN {X : Cx} {p : Nat} {c : Code} {S : Env} {H : Heap} {n : Nat} {K : KE} {ι : Type} (Sι : ι → Env) (Hι : ι → Heap) (nι : ι → Nat) (φ : ι → Prop) (μ : ι → Nat)
    (h0 : ∃ j, φ j ∧ Sub p X.m S H (Sι j) (Hι j) (nι j)) (h : ∀ i, φ i → codeVC X p c (Sι i) (Hι i) (nι i) (loopK p X.m Sι Hι nι φ μ i K)) : codeVC X p (.loop c) S H n K := ⟨ι, Sι, Hι, nι, φ, μ, h0, h⟩
theorem loop_intro {X : Cx} {p : Nat} {c : Code} {S : Env} {H : Heap} {n : Nat} {K : KE} {ι : Type} (Sι : ι → Env) (Hι : ι → Heap) (nι : Nat) (φ : ι → Prop) (μ : ι → Nat)
    (h0 : ∃ j, φ j ∧ Sub p X.m S H (Sι j) (Hι j) nι) (h : ∀ i, φ i → codeVC X p c (Sι i) (Hι i) nι (loopK p X.m Sι Hι (fun _ => nι) φ μ i K)) : codeVC X p (.loop c) S H n K := ⟨ι, Sι, Hι, fun _ => nι, φ, μ, h0, h⟩
theorem sk_normal (f : Env → Heap → Nat → KE → Prop) (K : KE) (S : Env) (H : Heap) (n : Nat) : seqK f K .normal S H n = f S H n K := rfl
theorem sk_exit (f : Env → Heap → Nat → KE → Prop) (K : KE) (id : Nat) (S : Env) (H : Heap) (n : Nat) : seqK f K (.exit id) S H n = K (.exit id) S H n := rfl
theorem sk_ret (f : Env → Heap → Nat → KE → Prop) (K : KE) (S : Env) (H : Heap) (n : Nat) : seqK f K .ret S H n = K .ret S H n := rfl
theorem bk_normal (id : Nat) (K : KE) (S : Env) (H : Heap) (n : Nat) : blockK id K .normal S H n = K .normal S H n := rfl
theorem bk_exit (id id' : Nat) (K : KE) (S : Env) (H : Heap) (n : Nat) : blockK id K (.exit id') S H n = if id' = id then K .normal S H n else K (.exit id') S H n := rfl
theorem bk_ret (id : Nat) (K : KE) (S : Env) (H : Heap) (n : Nat) : blockK id K .ret S H n = K .ret S H n := rfl
theorem nk (K : KE) (S : Env) (H : Heap) (n : Nat) : normK K S H n = K .normal S H n := rfl
theorem lk_exit {ι : Type} (p m : Nat) (Sι : ι → Env) (Hι : ι → Heap) (nι : ι → Nat) (φ : ι → Prop) (μ : ι → Nat) (i : ι) (K : KE) (id : Nat) (S : Env) (H : Heap) (n : Nat) : loopK p m Sι Hι nι φ μ i K (.exit id) S H n = K (.exit id) S H n := rfl
theorem lk_ret {ι : Type} (p m : Nat) (Sι : ι → Env) (Hι : ι → Heap) (nι : ι → Nat) (φ : ι → Prop) (μ : ι → Nat) (i : ι) (K : KE) (S : Env) (H : Heap) (n : Nat) : loopK p m Sι Hι nι φ μ i K .ret S H n = K .ret S H n := rfl
theorem lk_normal {ι : Type} (p m : Nat) (Sι : ι → Env) (Hι : ι → Heap) (nι : ι → Nat) (φ : ι → Prop) (μ : ι → Nat) (i : ι) (K : KE) (S : Env) (H : Heap) (n : Nat) : loopK p m Sι Hι nι φ μ i K .normal S H n = ∃ j, φ j ∧ μ j < μ i ∧ Sub p m S H (Sι j) (Hι j) (nι j) := rfl
theorem rk_normal (τ : Tys) (rs : List ResultVar) (κ : K1) (S : Env) (H : Heap) (n : Nat) : retK τ rs κ .normal S H n = resVC τ S H n κ rs [] := rfl
theorem rk_ret (τ : Tys) (rs : List ResultVar) (κ : K1) (S : Env) (H : Heap) (n : Nat) : retK τ rs κ .ret S H n = resVC τ S H n κ rs [] := rfl
theorem rv_nil (τ : Tys) (S : Env) (H : Heap) (n : Nat) (κ : K1) (acc : List SV) : resVC τ S H n κ [] acc = κ (packR acc.reverse) H n := rfl
theorem rv_tmp (τ : Tys) (S : Env) (H : Heap) (n : Nat) (κ : K1) (t : Tmp) (r : List ResultVar) (acc : List SV) : resVC τ S H n κ (.tmp t :: r) acc = ((sget S t).known = true ∧ resVC τ S H n κ r (sget S t :: acc)) := rfl
def rvK (τ : Tys) (S : Env) (H : Heap) (n : Nat) (κ : K1) (r : List ResultVar) (acc : List SV) : K1 := fun v _ _ => v.known = true ∧ resVC τ S H n κ r (v :: acc)
theorem rvK_eq (τ : Tys) (S : Env) (H : Heap) (n : Nat) (κ : K1) (r : List ResultVar) (acc : List SV) (v : SV) (H' : Heap) (n' : Nat) : rvK τ S H n κ r acc v H' n' = (v.known = true ∧ resVC τ S H n κ r (v :: acc)) := rfl
theorem rv_cell (τ : Tys) (S : Env) (H : Heap) (n : Nat) (κ : K1) (a t : Nat) (r : List ResultVar) (acc : List SV) : resVC τ S H n κ (.cell a t :: r) acc = loadVC (τ t) (sget S a) H n (rvK τ S H n κ r acc) := rfl

/-! Operations. -/
section
variable (X : Cx) (q : Bool) (all : Array Oper) (rest : List Oper) (S : Env) (H : Heap) (n : Nat) (K : KR) (κ : K1)
theorem ov_nil : opsVC X q all [] S H n K = K S H n := rfl
theorem ov_run (d : Option Tmp) (op : Op) (ty : TypeId) (pos : String) (af : Array Edge) : opsVC X q all (⟨d, op, ty, pos, af, none⟩ :: rest) S H n K = opVC X q op S H n (restK X q all rest S d K) := rfl
theorem rest_eq (d : Option Tmp) (v : SV) (H' : Heap) (n' : Nat) : restK X q all rest S d K v H' n' = opsVC X q all rest (sput S d v) H' n' K := rfl
def gdRun (op : Op) (d : Option Tmp) : Unit → Prop := fun _ => opVC X q op S H n (restK X q all rest S d K)
def gdSkip (d : Option Tmp) : Unit → Prop := fun _ => opsVC X q all rest (sput S d .und) H n K
theorem gdRun_eq (op : Op) (d : Option Tmp) : gdRun X q all rest S H n K op d () = opVC X q op S H n (restK X q all rest S d K) := rfl
theorem gdSkip_eq (d : Option Tmp) : gdSkip X q all rest S H n K d () = opsVC X q all rest (sput S d .und) H n K := rfl
def gdB (v : SV) (t : Nat) (want : Bool) (op : Op) (d : Option Tmp) : Prop := match v with
  | .bool c => match want with
    | true => bSplit c (gdRun X q all rest ((t, .bool true) :: S) H n K op d) (gdSkip X q all rest ((t, .bool false) :: S) H n K d)
    | false => bSplit c (gdSkip X q all rest ((t, .bool true) :: S) H n K d) (gdRun X q all rest ((t, .bool false) :: S) H n K op d)
  | .und => opsVC X q all rest (sput S d .und) H n K
  | _ => False
theorem gdB_t (c : Bool) (t : Nat) (op : Op) (d : Option Tmp) : gdB X q all rest S H n K (.bool c) t true op d = bSplit c (gdRun X q all rest ((t, .bool true) :: S) H n K op d) (gdSkip X q all rest ((t, .bool false) :: S) H n K d) := rfl
theorem gdB_f (c : Bool) (t : Nat) (op : Op) (d : Option Tmp) : gdB X q all rest S H n K (.bool c) t false op d = bSplit c (gdSkip X q all rest ((t, .bool true) :: S) H n K d) (gdRun X q all rest ((t, .bool false) :: S) H n K op d) := rfl
theorem gdB_und (t : Nat) (want : Bool) (op : Op) (d : Option Tmp) : gdB X q all rest S H n K .und t want op d = opsVC X q all rest (sput S d .und) H n K := rfl
def gdT (t : Option Tmp) (want : Bool) (op : Op) (d : Option Tmp) : Prop := match t with
  | some t => gdB X q all rest S H n K (sget S t) t want op d
  | none => False
theorem gdT_some (t : Nat) (want : Bool) (op : Op) (d : Option Tmp) : gdT X q all rest S H n K (some t) want op d = gdB X q all rest S H n K (sget S t) t want op d := rfl
def dstAt (all : List Oper) (j : Nat) : Option Tmp := (all[j]?).bind (·.dst)
theorem dstAt_zero (o : Oper) (l : List Oper) : dstAt (o :: l) 0 = o.dst := rfl
theorem dstAt_succ (o : Oper) (l : List Oper) (j : Nat) : dstAt (o :: l) (j + 1) = dstAt l j := by simp [dstAt]
theorem ov_guard (l : List Oper) (d : Option Tmp) (op : Op) (ty : TypeId) (pos : String) (af : Array Edge) (j : Nat) (want : Bool) :
    opsVC X q l.toArray (⟨d, op, ty, pos, af, some (j, want)⟩ :: rest) S H n K = gdT X q l.toArray rest S H n K (dstAt l j) want op d := by
  conv => lhs; unfold opsVC
  simp only [dstAt, gdT, List.getElem?_toArray]
  cases hq : (l[j]?).bind (·.dst) with
  | none => rfl
  | some t =>
    simp only
    unfold gdB
    cases hs : sget S t with
    | bool c => cases want <;> cases c <;> simp [bSplit, gdRun, gdSkip] <;> rfl
    | _ => rfl
end
theorem sget_cons (t k : Nat) (v : SV) (S : Env) : sget ((k, v) :: S) t = if t = k then v else sget S t := by
  unfold sget
  rw [List.lookup_cons]
  by_cases h : t = k
  · simp [h]
  · have : (t == k) = false := by simpa using h
    simp [h, this]
theorem sput_some (S : Env) (t : Nat) (v : SV) : sput S (some t) v = (t, v) :: S := rfl
theorem sput_none (S : Env) (v : SV) : sput S none v = S := rfl
theorem tl_cons {α : Type} (k a : Nat) (b : α) (l : List (Nat × α)) : List.lookup k ((a, b) :: l) = if k = a then some b else List.lookup k l := by
  rw [List.lookup_cons]
  by_cases h : k = a
  · simp [h]
  · have : (k == a) = false := by simpa using h
    simp [h, this]
theorem tl_nil {α : Type} (k : Nat) : List.lookup k ([] : List (Nat × α)) = none := rfl
theorem ev_tmp (S : Env) (t : Nat) : ev S (.tmp t) = sget S t := rfl
theorem ev_func (S : Env) (f : Nat) : ev S (.func f) = .fn f [] := rfl
theorem ev_int (S : Env) (x : Int) : ev S (.const (.int .i64 x)) = .int x := rfl
theorem ev_bool (S : Env) (b : Bool) : ev S (.const (.bool b)) = .bool b := rfl
theorem hv_none (S : Env) : hintVC S none = True := rfl
theorem hv_some (S : Env) (x : Int) : hintVC S (some (.const (.int .i64 x))) = True := rfl
theorem ev_nils (S : Env) : ev S (.const (.slice none 0 0)) = .nils := rfl
theorem ev_agg (S : Env) (l : List Value) : ev S (.const (.agg l.toArray)) = match allI l with | some L => .arr L | none => .lit (.agg l.toArray) := rfl

section
variable (X : Cx) (q : Bool) (S : Env) (H : Heap) (n : Nat) (κ : K1)
theorem o_move (x : Operand) : opVC X q (.move x) S H n κ = κ (ev S x) H n := rfl
theorem o_assign (x : Operand) : opVC X q (.assign x) S H n κ = κ (ev S x) H n := rfl
theorem o_pick (c a b : Operand) : opVC X q (.pick c a b) S H n κ = pickVC (ev S c) (ev S a) (ev S b) H n κ := rfl
theorem o_load (t : TypeId) (a : Operand) : opVC X q (.load t a) S H n κ = loadVC (X.τ t) (ev S a) H n κ := rfl
theorem o_bin (op : BinOp) (t yt : TypeId) (x y : Operand) : opVC X q (.binOp op t x y yt) S H n κ = binVC X.P X.nw X.mw op t (X.τ t) (ev S x) (ev S y) H n κ := rfl
theorem o_conv (t u : TypeId) (x : Operand) : opVC X q (.convert t u x) S H n κ = convVC (X.τ t) (X.τ u) (ev S x) H n κ := rfl
theorem o_un (op : UnOp) (t : TypeId) (x : Operand) : opVC X q (.unOp op t x) S H n κ = unVC X.nw op (ev S x) H n κ := rfl
theorem o_extract (x : Operand) (i : Nat) : opVC X q (.extract x i) S H n κ = extractVC (ev S x) i H n κ := rfl
theorem o_makeFunc (fn : Fn) (first : Array Operand) (caps : List Operand) : opVC X q (.makeFunc fn first caps.toArray) S H n κ = makeFuncVC fn first (caps.map (ev S)) H n κ := rfl
theorem o_fieldAddr (t : TypeId) (x : Operand) (f : Nat) : opVC X q (.fieldAddr t x f) S H n κ = fieldAddrVC X.τ (X.τ t) (ev S x) f H n κ := rfl
theorem o_field (t : TypeId) (x : Operand) (f : Nat) : opVC X q (.field t x f) S H n κ = fieldVC X.τ (X.τ t) (ev S x) f H n κ := rfl
theorem o_nilCheck (x : Operand) : opVC X q (.nilCheck x) S H n κ = nilCheckVC (ev S x) H n κ := rfl
theorem o_indexAddr (t : TypeId) (x i : Operand) : opVC X q (.indexAddr t x i) S H n κ = indexAddrVC X.τ (X.τ t) (ev S x) (ev S i) H n κ := rfl
theorem o_index (t : TypeId) (x i : Operand) : opVC X q (.index t x i) S H n κ = indexVC X.τ (X.τ t) (ev S x) (ev S i) H n κ := rfl
theorem o_lookup (t : TypeId) (x i : Operand) (ok : Bool) : opVC X q (.lookup t x i ok) S H n κ = lookupVC X.P X.τ (X.τ t) (ev S x) (ev S i) ok H n κ := rfl
theorem o_mapUpdate (t : TypeId) (x i v : Operand) : opVC X q (.mapUpdate t x i v) S H n κ = mapUpdateVC X.P X.m (X.τ t) (ev S x) (ev S i) (ev S v) H n κ := rfl
theorem o_makeMap (t : TypeId) (r : Option Operand) : opVC X q (.makeMap t r) S H n κ = (hintVC S r ∧ makeMapVC X.τ (X.τ t) H n κ) := rfl
theorem o_slice (t : TypeId) (x : Operand) (lo hi : Option Operand) : opVC X q (.slice t x lo hi none) S H n κ = sliceVC X.τ (X.τ t) (ev S x) (lo.map (ev S)) (hi.map (ev S)) H n κ := by
  show (true = true ∧ _) = _
  simp
theorem o_build (t : TypeId) (l : List (Nat × Operand)) : opVC X q (.build t l.toArray) S H n κ = buildVC X.τ (X.τ t) (l.map fun p => (p.1, ev S p.2)) H n κ := rfl
theorem o_len (l : List Operand) (ts : Array TypeId) : opVC X q (.call ⟨.builtin .len, l.toArray, ts⟩) S H n κ = ((l.map (ev S)).all SV.known = true ∧ builtinVC X.τ .len ts (l.map (ev S)) H n κ) := rfl
theorem o_min (l : List Operand) (ts : Array TypeId) : opVC X q (.call ⟨.builtin .min, l.toArray, ts⟩) S H n κ = ((l.map (ev S)).all SV.known = true ∧ builtinVC X.τ .min ts (l.map (ev S)) H n κ) := rfl
theorem o_max (l : List Operand) (ts : Array TypeId) : opVC X q (.call ⟨.builtin .max, l.toArray, ts⟩) S H n κ = ((l.map (ev S)).all SV.known = true ∧ builtinVC X.τ .max ts (l.map (ev S)) H n κ) := rfl
theorem o_append (x y : Operand) (t : TypeId) : opVC X q (.call ⟨.builtin .append, [x, y].toArray, [t, t].toArray⟩) S H n κ = appendVC X.τ X.m (X.τ t) (ev S x) (ev S y) H n κ := by
  show (t = t ∧ _) = _
  simp
theorem o_clear (x : Operand) (t : TypeId) : opVC X q (.call ⟨.builtin .clear, [x].toArray, [t].toArray⟩) S H n κ = clearVC X.τ X.m (X.τ t) (ev S x) H n κ := rfl
theorem o_alloc (e : TypeId) : opVC X q (.alloc e) S H n κ = ((X.τ e).k ≠ .other ∧ flat (X.τ e).z = true ∧ newVC (X.τ e).z e H n κ) := by
  rfl
theorem o_box (e : TypeId) (x : Operand) : opVC X q (.box e x) S H n κ = newVC (ev S x) e H n κ := by
  rfl
theorem o_store (t : TypeId) (a x : Operand) : opVC X q (.store t a x) S H n κ = storeVC X.m (X.τ t) (ev S a) (ev S x) H n κ := by
  rfl
theorem o_buildSlice (t : TypeId) (len : Nat) (l : List (Nat × Operand)) : opVC X q (.buildSlice t len l.toArray) S H n κ = buildSliceVC X.τ (X.τ t) len (l.map fun p => (p.1, ev S p.2)) H n κ := by
  rfl
theorem o_makeSlice (t : TypeId) (l c : Operand) : opVC X q (.makeSlice t l c) S H n κ = makeSliceVC X.τ (X.τ t) (ev S l) (ev S c) H n κ := by
  rfl
theorem o_call (f : Operand) (l : List Operand) (ts : Array TypeId) : opVC X false (.call ⟨.value f, l.toArray, ts⟩) S H n κ = (l.all (fun x => (ev S x).known) = true ∧ callVC X false (ev S f) (l.map (ev S)) H n κ) := rfl
theorem o_callD (f : Operand) (l : List Operand) (ts : Array TypeId) : opVC X true (.call ⟨.value f, l.toArray, ts⟩) S H n κ = (l.all (fun x => (ev S x).known) = true ∧ callVC X (!isIn X.sx f) (ev S f) (l.map (ev S)) H n κ) := rfl
theorem isIn_nil (o : Operand) : isIn [] o = false := rfl
theorem isIn_cons (k f : Nat) (l : List Nat) : isIn (k :: l) (.func f) = if k = f then true else isIn l (.func f) := rfl
theorem isIn_tmp (k t : Nat) (l : List Nat) : isIn (k :: l) (.tmp t) = false := rfl
theorem call_fn (f : Nat) (caps args : List SV) : callVC X q (.fn f caps) args H n κ = callPG X q (X.Γp.lookup f) f (args ++ caps) H n κ := rfl
theorem callPG_some (F : List SV → Heap → Option (Prop × SV)) (f : Nat) (args : List SV) : callPG X q (some F) f args H n κ = resP (F args H) H n κ := rfl
theorem callPG_none (f : Nat) (args : List SV) : callPG X false none f args H n κ = callG X (X.Γ.lookup f) f args H n κ := by simp [callPG]
theorem callG_some (G : List SV → Heap → Nat → Nat → K1 → Prop) (f : Nat) (args : List SV) : callG X (some G) f args H n κ = G args H n X.m κ := rfl
theorem resP_some (p : Prop) (v : SV) : resP (some (p, v)) H n κ = (p ∧ κ v H n) := rfl
end

section
variable (P : Program) (τ : Tys) (nw mw : Bool) (m : Nat) (t : TypeId) (s b : Nat) (z : SV) (H : Heap) (n : Nat) (κ : K1)
theorem cellM_some (v : SV) : cellM (some v) H n κ = (oneCellS v = true ∧ κ v H n) := rfl
def pickU (v : SV) : Unit → Prop := fun _ => κ v H n
theorem pickU_eq (v : SV) : pickU H n κ v () = κ v H n := rfl
theorem pick_bool (c : Bool) (x y : SV) : pickVC (.bool c) x y H n κ = bSplit c (pickU H n κ x) (pickU H n κ y) := rfl
theorem load_ptr (d : TyD) (k off : Nat) : loadVC d (.ptr k off) H n κ = loadB d (hget H k) off H n κ := rfl
theorem load_int (L : List Int) (e off : Nat) : loadB ⟨.int, s, b, z⟩ (some (.ints L e)) off H n κ = (off < L.length ∧ κ (.int (L.getD off 0)) H n) := rfl
theorem load_arr (k e' : Nat) (L : List Int) (e off : Nat) : loadB ⟨.arr k e', s, b, z⟩ (some (.ints L e)) off H n κ = (off + s ≤ L.length ∧ κ (.arr ((L.drop off).take s)) H n) := rfl
theorem load_str (fs : List (Nat × Nat)) (L : List Int) (e off : Nat) : loadB ⟨.str fs, s, b, z⟩ (some (.ints L e)) off H n κ = (off + s ≤ L.length ∧ κ (.arr ((L.drop off).take s)) H n) := rfl
theorem load_wint (o : Nat) (L : List Int) (off : Nat) : loadB ⟨.int, s, b, z⟩ (some (.win o L)) off H n κ = (o ≤ off ∧ off < o + L.length ∧ κ (.int (L.getD (off - o) 0)) H n) := rfl
theorem load_warr (k e' o : Nat) (L : List Int) (off : Nat) : loadB ⟨.arr k e', s, b, z⟩ (some (.win o L)) off H n κ = (0 < s ∧ o ≤ off ∧ off + s ≤ o + L.length ∧ κ (.arr ((L.drop (off - o)).take s)) H n) := rfl
theorem load_wstr (fs : List (Nat × Nat)) (o : Nat) (L : List Int) (off : Nat) : loadB ⟨.str fs, s, b, z⟩ (some (.win o L)) off H n κ = (0 < s ∧ o ≤ off ∧ off + s ≤ o + L.length ∧ κ (.arr ((L.drop (off - o)).take s)) H n) := rfl
theorem load_bool (L : List Bool) (e off : Nat) : loadB ⟨.bool, s, b, z⟩ (some (.bls L e)) off H n κ = (off < L.length ∧ κ (.bool (L.getD off false)) H n) := rfl
theorem load_cellsI (l : List SV) (e off : Nat) : loadB ⟨.int, s, b, z⟩ (some (.cells l e)) off H n κ = cellM l[off]? H n κ := by simp [loadB, Kd.isSca]
theorem load_cellsB (l : List SV) (e off : Nat) : loadB ⟨.bool, s, b, z⟩ (some (.cells l e)) off H n κ = cellM l[off]? H n κ := by simp [loadB, Kd.isSca]
theorem load_cellsL (e1 : Nat) (l : List SV) (e off : Nat) : loadB ⟨.sl e1, s, b, z⟩ (some (.cells l e)) off H n κ = cellM l[off]? H n κ := by simp [loadB, Kd.isSca]
theorem load_cellsM (k1 e1 : Nat) (l : List SV) (e off : Nat) : loadB ⟨.mp k1 e1, s, b, z⟩ (some (.cells l e)) off H n κ = cellM l[off]? H n κ := by simp [loadB, Kd.isSca]
theorem load_cellsS (l : List SV) (e off : Nat) : loadB ⟨.sca, s, b, z⟩ (some (.cells l e)) off H n κ = cellM l[off]? H n κ := by simp [loadB, Kd.isSca]
theorem load_cellsU (k1 : IntKind) (l : List SV) (e off : Nat) : loadB ⟨.num k1, s, b, z⟩ (some (.cells l e)) off H n κ = cellM l[off]? H n κ := by simp [loadB, Kd.isSca]
theorem load_winU (o : Nat) (L : List Int) (off : Nat) : loadB ⟨.num .u8, s, b, z⟩ (some (.winU o L)) off H n κ = (o ≤ off ∧ off < o + L.length ∧ κ (.lit (.int .u8 (L.getD (off - o) 0))) H n) := rfl
theorem load_cellsR (fs : List (Nat × Nat)) (l : List SV) (e off : Nat) : loadB ⟨.str fs, s, b, z⟩ (some (.cells l e)) off H n κ = (off + s ≤ l.length ∧ κ (.stc ((l.drop off).take s)) H n) := rfl
theorem bin_ii (op : BinOp) (d : TyD) (x y : Int) : binVC P nw mw op t d (.int x) (.int y) H n κ = intVC nw mw op x y H n κ := rfl
theorem i_add (x y : Int) : intVC nw mw .add x y H n κ = arVC nw (x + y) H n κ := rfl
theorem i_sub (x y : Int) : intVC nw mw .sub x y H n κ = arVC nw (x - y) H n κ := rfl
theorem i_mul (x y : Int) : intVC nw mw .mul x y H n κ = arVC mw (x * y) H n κ := rfl
theorem i_quo (x y : Int) : intVC nw mw .quo x y H n κ = (y ≠ 0 ∧ arVC mw (x.tdiv y) H n κ) := rfl
theorem i_rem (x y : Int) : intVC nw mw .rem x y H n κ = (y ≠ 0 ∧ κ (.int (x.tmod y)) H n) := rfl
theorem i_eql (x y : Int) : intVC nw mw .eql x y H n κ = κ (.bool (decide (x = y))) H n := rfl
theorem i_neq (x y : Int) : intVC nw mw .neq x y H n κ = κ (.bool (!decide (x = y))) H n := rfl
theorem i_lss (x y : Int) : intVC nw mw .lss x y H n κ = κ (.bool (decide (x < y))) H n := rfl
theorem i_leq (x y : Int) : intVC nw mw .leq x y H n κ = κ (.bool (decide (x ≤ y))) H n := rfl
theorem i_gtr (x y : Int) : intVC nw mw .gtr x y H n κ = κ (.bool (decide (y < x))) H n := rfl
theorem i_geq (x y : Int) : intVC nw mw .geq x y H n κ = κ (.bool (decide (y ≤ x))) H n := rfl
theorem ar_t (x : Int) : arVC true x H n κ = (In64 x ∧ κ (.int x) H n) := rfl
theorem ar_f (x : Int) : arVC false x H n κ = κ (.int (IntKind.i64.wrap x)) H n := rfl
theorem bin_ll (op : BinOp) (d : TyD) (k k' : IntKind) (x y : Int) : binVC P nw mw op t d (.lit (.int k x)) (.lit (.int k' y)) H n κ = numVC op k k' x y H n κ := rfl
theorem bin_li (op : BinOp) (d : TyD) (k : IntKind) (x y : Int) : binVC P nw mw op t d (.lit (.int k x)) (.int y) H n κ = numVC op k .i64 x y H n κ := rfl
theorem n_add (k : IntKind) (x y : Int) : numVC .add k k x y H n κ = κ (.lit (.int k (k.wrap (x + y)))) H n := by simp [numVC]
theorem n_sub (k : IntKind) (x y : Int) : numVC .sub k k x y H n κ = κ (.lit (.int k (k.wrap (x - y)))) H n := by simp [numVC]
theorem n_mul (k : IntKind) (x y : Int) : numVC .mul k k x y H n κ = κ (.lit (.int k (k.wrap (x * y)))) H n := by simp [numVC]
theorem n_and (k : IntKind) (x y : Int) : numVC .and k k x y H n κ = κ (.lit (.int k (k.wrap (BitVec.ofInt k.bits x &&& BitVec.ofInt k.bits y).toNat))) H n := by simp [numVC]
theorem n_xor (k : IntKind) (x y : Int) : numVC .xor k k x y H n κ = κ (.lit (.int k (k.wrap (BitVec.ofInt k.bits x ^^^ BitVec.ofInt k.bits y).toNat))) H n := by simp [numVC]
theorem n_shr (k k' : IntKind) (x y : Int) : numVC .shr k k' x y H n κ = (0 ≤ y ∧ κ (.lit (.int k (x.fdiv (2 ^ (min y.toNat k.bits))))) H n) := rfl
theorem cv_int (d e : TyD) (x : Int) : convVC d e (.int x) H n κ = (d.k.isSca = true ∧ convI e x H n κ) := rfl
theorem cv_lit (d e : TyD) (k : IntKind) (x : Int) : convVC d e (.lit (.int k x)) H n κ = (d.k.isSca = true ∧ convI e x H n κ) := rfl
theorem ci_int (x : Int) : convI ⟨.int, s, b, z⟩ x H n κ = (In64 x ∧ κ (.int x) H n) := rfl
theorem ci_num (k : IntKind) (x : Int) : convI ⟨.num k, s, b, z⟩ x H n κ = κ (.lit (.int k (k.wrap x))) H n := rfl
theorem ev_u64 (S : Env) (x : Int) : ev S (.const (.int .u64 x)) = .lit (.int .u64 x) := rfl
theorem ev_u8 (S : Env) (x : Int) : ev S (.const (.int .u8 x)) = .lit (.int .u8 x) := rfl
theorem bin_bb_eql (x y : Bool) : binVC P nw mw .eql t ⟨.bool, s, b, z⟩ (.bool x) (.bool y) H n κ = κ (.bool (x == y)) H n := by simp [binVC]
theorem bin_bb_neq (x y : Bool) : binVC P nw mw .neq t ⟨.bool, s, b, z⟩ (.bool x) (.bool y) H n κ = κ (.bool (!(x == y))) H n := by simp [binVC]
theorem bin_aa_eql (d : TyD) (L M : List Int) : binVC P nw mw .eql t d (.arr L) (.arr M) H n κ = (EqI P t d.size ∧ L.length = d.size ∧ M.length = d.size ∧ κ (.bool (decide (L = M))) H n) := rfl
theorem bin_aa_neq (d : TyD) (L M : List Int) : binVC P nw mw .neq t d (.arr L) (.arr M) H n κ = (EqI P t d.size ∧ L.length = d.size ∧ M.length = d.size ∧ κ (.bool (!decide (L = M))) H n) := rfl
theorem un_not (x : Bool) : unVC nw .not (.bool x) H n κ = κ (.bool (!x)) H n := rfl
theorem un_neg (x : Int) : unVC nw .neg (.int x) H n κ = arVC nw (-x) H n κ := rfl
theorem extract_zero (v : SV) (l : List SV) : extractVC (.tup (v :: l)) 0 H n κ = κ v H n := rfl
theorem extract_succ (v : SV) (l : List SV) (i : Nat) : extractVC (.tup (v :: l)) (i + 1) H n κ = extractVC (.tup l) i H n κ := by simp [extractVC]
theorem makeFunc_func (f : Nat) (caps : List SV) : makeFuncVC (.func f) #[] caps H n κ = (caps.all SV.known = true ∧ κ (.fn f caps) H n) := by simp [makeFuncVC]
theorem fa_str (fs : List (Nat × Nat)) (k off f : Nat) : fieldAddrVC τ ⟨.str fs, s, b, z⟩ (.ptr k off) f H n κ = match fs[f]? with
    | some (o, ft) => (τ ft).k ≠ .other ∧ (τ ft).size ≠ 0 ∧ κ (.ptr k (off + o)) H n
    | none => False := rfl
theorem f_str (fs : List (Nat × Nat)) (L : List Int) (f : Nat) : fieldVC τ ⟨.str fs, s, b, z⟩ (.arr L) f H n κ = match fs[f]? with
    | some (o, ft) => partVC (τ ft) L o H n κ
    | none => False := rfl
theorem f_stc (fs : List (Nat × Nat)) (l : List SV) (f : Nat) : fieldVC τ ⟨.str fs, s, b, z⟩ (.stc l) f H n κ = match fs[f]? with
    | some (o, ft) => (τ ft).k.isSca = true ∧ cellM l[o]? H n κ
    | none => False := rfl
theorem nil_ptr (k off : Nat) : nilCheckVC (.ptr k off) H n κ = κ (.ptr k off) H n := rfl
theorem part_int (L : List Int) (off : Nat) : partVC ⟨.int, s, b, z⟩ L off H n κ = (off < L.length ∧ κ (.int (L.getD off 0)) H n) := rfl
theorem part_arr (k e : Nat) (L : List Int) (off : Nat) : partVC ⟨.arr k e, s, b, z⟩ L off H n κ = κ (.arr ((L.drop off).take s)) H n := rfl
theorem part_str (fs : List (Nat × Nat)) (L : List Int) (off : Nat) : partVC ⟨.str fs, s, b, z⟩ L off H n κ = κ (.arr ((L.drop off).take s)) H n := rfl
theorem ia_arr (len e k off : Nat) (i : Int) : indexAddrVC τ ⟨.arr len e, s, b, z⟩ (.ptr k off) (.int i) H n κ = ((τ e).k ≠ .other ∧ 0 ≤ i ∧ i < len ∧ κ (.ptr k (off + i.toNat * (τ e).size)) H n) := rfl
theorem ia_sl (e k off len cap : Nat) (i : Int) : indexAddrVC τ ⟨.sl e, s, b, z⟩ (.slice k off len cap) (.int i) H n κ = ((τ e).k ≠ .other ∧ 0 ≤ i ∧ i < len ∧ κ (.ptr k (off + i.toNat * (τ e).size)) H n) := rfl
theorem ix_arr (len e : Nat) (L : List Int) (i : Int) : indexVC τ ⟨.arr len e, s, b, z⟩ (.arr L) (.int i) H n κ = (0 ≤ i ∧ i < len ∧ partVC (τ e) L (i.toNat * (τ e).size) H n κ) := rfl
theorem sl_arr (len e k off : Nat) (lo hi : Option SV) : sliceVC τ ⟨.arr len e, s, b, z⟩ (.ptr k off) lo hi H n κ = ((τ e).k ≠ .other ∧ bndVC hi len len fun h => bndVC lo 0 h fun l => κ (.slice k (cutOff len l off (τ e).size) (h - l) (len - l)) H n) := rfl
theorem sl_sl (e k off len cap : Nat) (lo hi : Option SV) : sliceVC τ ⟨.sl e, s, b, z⟩ (.slice k off len cap) lo hi H n κ = ((τ e).k ≠ .other ∧ bndVC hi len cap fun h => bndVC lo 0 h fun l => κ (.slice k (cutOff cap l off (τ e).size) (h - l) (cap - l)) H n) := rfl
theorem sl_nils (e : Nat) (lo hi : Option SV) : sliceVC τ ⟨.sl e, s, b, z⟩ .nils lo hi H n κ = ((τ e).k ≠ .other ∧ bndVC hi 0 0 fun h => bndVC lo 0 h fun _ => κ .nils H n) := rfl
theorem bnd_none (d hi : Nat) (κ' : Nat → Prop) : bndVC none d hi κ' = κ' d := rfl
theorem bnd_some (d hi : Nat) (i : Int) (κ' : Nat → Prop) : bndVC (some (.int i)) d hi κ' = (0 ≤ i ∧ i ≤ hi ∧ κ' i.toNat) := rfl
theorem len_sl (e k off len cap : Nat) : lenVC ⟨.sl e, s, b, z⟩ (.slice k off len cap) H n κ = κ (.int len) H n := rfl
theorem len_mp (kk e k : Nat) : lenVC ⟨.mp kk e, s, b, z⟩ (.mp k) H n κ = lenMB (hget H k) H n κ := rfl
theorem lenMB_mp (bv : Bool) (l : List (List Int × Int)) : lenMB (some (.mp bv l)) H n κ = κ (.int l.length) H n := rfl
theorem lk_mp (kk e k : Nat) (K : List Int) (ok : Bool) : lookupVC P τ ⟨.mp kk e, s, b, z⟩ (.mp k) (.arr K) ok H n κ = lookupB P τ kk e ok (hget H k) K H n κ := rfl
theorem lkB_mp (kk e : Nat) (bv ok : Bool) (l : List (List Int × Int)) (K : List Int) : lookupB P τ kk e ok (some (.mp bv l)) K H n κ = (KeyI P kk K.length ∧ keysOK l K.length ∧ (τ e).k ≠ .other ∧ (τ e).z = mz bv ∧ κ (lkRes bv ok l K) H n) := rfl
theorem lkR_t (bv : Bool) (l : List (List Int × Int)) (K : List Int) : lkRes bv true l K = .tup [mvS bv (mget l K), .bool (mhas l K)] := rfl
theorem lkR_f (bv : Bool) (l : List (List Int × Int)) (K : List Int) : lkRes bv false l K = mvS bv (mget l K) := rfl
theorem mvS_t (x : Int) : mvS true x = .bool (decide (x = 1)) := rfl
theorem mvS_f (x : Int) : mvS false x = .int x := rfl
theorem mz_t : mz true = .bool false := rfl
theorem mz_f : mz false = .int 0 := rfl
theorem mu_mp (kk e k : Nat) (K : List Int) (v : SV) : mapUpdateVC P m ⟨.mp kk e, s, b, z⟩ (.mp k) (.arr K) v H n κ = (m ≤ k ∧ updB P kk K k (hget H k) v H n κ) := rfl
theorem muB_t (kk : Nat) (K : List Int) (k : Nat) (l : List (List Int × Int)) (x : Bool) : updB P kk K k (some (.mp true l)) (.bool x) H n κ = (KeyI P kk K.length ∧ keysOK l K.length ∧ κ .und ((k, .mp true (mset l K (if x then 1 else 0))) :: H) n) := rfl
theorem muB_f (kk : Nat) (K : List Int) (k : Nat) (l : List (List Int × Int)) (x : Int) : updB P kk K k (some (.mp false l)) (.int x) H n κ = (KeyI P kk K.length ∧ keysOK l K.length ∧ κ .und ((k, .mp false (mset l K x)) :: H) n) := rfl
def mkB (k : Kd) (H : Heap) (n : Nat) (κ : K1) : Prop := match k with
  | .bool => κ (.mp n) ((n, .mp true []) :: H) (n + 1)
  | .int => κ (.mp n) ((n, .mp false []) :: H) (n + 1)
  | _ => False
theorem mk_mp (kk e : Nat) : makeMapVC τ ⟨.mp kk e, s, b, z⟩ H n κ = mkB (τ e).k H n κ := rfl
theorem mkB_t : mkB .bool H n κ = κ (.mp n) ((n, .mp true []) :: H) (n + 1) := rfl
theorem mkB_f : mkB .int H n κ = κ (.mp n) ((n, .mp false []) :: H) (n + 1) := rfl
theorem len_nils (e : Nat) : lenVC ⟨.sl e, s, b, z⟩ .nils H n κ = κ (.int 0) H n := rfl
theorem b_len (t : TypeId) (r : List TypeId) (x : SV) : builtinVC τ .len (t :: r).toArray [x] H n κ = lenVC (τ t) x H n κ := rfl
theorem b_min (ts : Array TypeId) (x y : Int) : builtinVC τ .min ts [.int x, .int y] H n κ = κ (.int (min x y)) H n := rfl
theorem b_max (ts : Array TypeId) (x y : Int) : builtinVC τ .max ts [.int x, .int y] H n κ = κ (.int (max x y)) H n := rfl
theorem new_int (x : Int) (e : Nat) : newVC (.int x) e H n κ = κ (.ptr n 0) ((n, .ints [x] e) :: H) (n + 1) := rfl
theorem new_arr (L : List Int) (e : Nat) : newVC (.arr L) e H n κ = κ (.ptr n 0) ((n, .ints L e) :: H) (n + 1) := rfl
theorem new_bool (x : Bool) (e : Nat) : newVC (.bool x) e H n κ = κ (.ptr n 0) ((n, .bls [x] e) :: H) (n + 1) := rfl
theorem new_barr (L : List Bool) (e : Nat) : newVC (.barr L) e H n κ = κ (.ptr n 0) ((n, .bls L e) :: H) (n + 1) := rfl
theorem new_ptr (k o e : Nat) : newVC (.ptr k o) e H n κ = κ (.ptr n 0) ((n, .cells [.ptr k o] e) :: H) (n + 1) := rfl
theorem new_slice (k o l c e : Nat) : newVC (.slice k o l c) e H n κ = κ (.ptr n 0) ((n, .cells [.slice k o l c] e) :: H) (n + 1) := rfl
theorem new_nils (e : Nat) : newVC .nils e H n κ = κ (.ptr n 0) ((n, .cells [.nils] e) :: H) (n + 1) := rfl
theorem litNil_nil : litNil .nilFunc = true := rfl
theorem new_nilf (e : Nat) : newVC (.lit .nilFunc) e H n κ = κ (.ptr n 0) ((n, .cells [.lit .nilFunc] e) :: H) (n + 1) := rfl
theorem new_mp (k e : Nat) : newVC (.mp k) e H n κ = κ (.ptr n 0) ((n, .cells [.mp k] e) :: H) (n + 1) := rfl
theorem new_stc (l : List SV) (e : Nat) : newVC (.stc l) e H n κ = (l.all oneCellS = true ∧ κ (.ptr n 0) ((n, .cells l e) :: H) (n + 1)) := by
  by_cases h : l.all oneCellS = true
  · have e1 : blockOf (.stc l) e = some (.cells l e) := if_pos h
    simp only [newVC, e1, h, true_and]
  · have e1 : blockOf (.stc l) e = none := if_neg h
    simp only [newVC, e1, h]
    simp
theorem new_fn (f : Nat) (caps : List SV) (e : Nat) : newVC (.fn f caps) e H n κ = κ (.ptr n 0) ((n, .cells [.fn f caps] e) :: H) (n + 1) := rfl
theorem store_ptr (d : TyD) (k off : Nat) (v : SV) : storeVC m d (.ptr k off) v H n κ = (m ≤ k ∧ d.k ≠ .other ∧ storeB d (hget H k) k off v H n κ) := rfl
theorem store_int (d : TyD) (L : List Int) (e k off : Nat) (x : Int) : storeB d (some (.ints L e)) k off (.int x) H n κ = (d.size = 1 ∧ off < L.length ∧ κ .und ((k, .ints (L.set off x) e) :: H) n) := rfl
theorem store_arr (d : TyD) (L : List Int) (e k off : Nat) (M : List Int) : storeB d (some (.ints L e)) k off (.arr M) H n κ = (M.length = d.size ∧ off + M.length ≤ L.length ∧ κ .und ((k, .ints (L.take off ++ M ++ L.drop (off + M.length)) e) :: H) n) := rfl
theorem store_bool (d : TyD) (L : List Bool) (e k off : Nat) (x : Bool) : storeB d (some (.bls L e)) k off (.bool x) H n κ = (d.size = 1 ∧ off < L.length ∧ κ .und ((k, .bls (L.set off x) e) :: H) n) := rfl
theorem store_cellsI (d : TyD) (l : List SV) (e k off : Nat) (x : Int) : storeB d (some (.cells l e)) k off (.int x) H n κ = (d.size = 1 ∧ off < l.length ∧ κ .und ((k, .cells (l.set off (.int x)) e) :: H) n) := by simp [storeB, oneCellS]
theorem store_cellsB (d : TyD) (l : List SV) (e k off : Nat) (x : Bool) : storeB d (some (.cells l e)) k off (.bool x) H n κ = (d.size = 1 ∧ off < l.length ∧ κ .und ((k, .cells (l.set off (.bool x)) e) :: H) n) := by simp [storeB, oneCellS]
theorem store_cellsP (d : TyD) (l : List SV) (e k off : Nat) (b1 o1 : Nat) : storeB d (some (.cells l e)) k off (.ptr b1 o1) H n κ = (d.size = 1 ∧ off < l.length ∧ κ .und ((k, .cells (l.set off (.ptr b1 o1)) e) :: H) n) := by simp [storeB, oneCellS]
theorem store_cellsL (d : TyD) (l : List SV) (e k off : Nat) (b1 o1 l1 c1 : Nat) : storeB d (some (.cells l e)) k off (.slice b1 o1 l1 c1) H n κ = (d.size = 1 ∧ off < l.length ∧ κ .und ((k, .cells (l.set off (.slice b1 o1 l1 c1)) e) :: H) n) := by simp [storeB, oneCellS]
theorem store_cellsN (d : TyD) (l : List SV) (e k off : Nat) : storeB d (some (.cells l e)) k off (.nils) H n κ = (d.size = 1 ∧ off < l.length ∧ κ .und ((k, .cells (l.set off (.nils)) e) :: H) n) := by simp [storeB, oneCellS]
theorem store_cellsF (d : TyD) (l : List SV) (e k off : Nat) (f1 : Nat) (cs : List SV) : storeB d (some (.cells l e)) k off (.fn f1 cs) H n κ = (d.size = 1 ∧ off < l.length ∧ κ .und ((k, .cells (l.set off (.fn f1 cs)) e) :: H) n) := by simp [storeB, oneCellS]
theorem store_cellsU (d : TyD) (l : List SV) (e k off : Nat) (k1 : IntKind) (x : Int) : storeB d (some (.cells l e)) k off (.lit (.int k1 x)) H n κ = (d.size = 1 ∧ off < l.length ∧ κ .und ((k, .cells (l.set off (.lit (.int k1 x))) e) :: H) n) := by simp [storeB, oneCellS, litOne]
theorem store_cellsM (d : TyD) (l : List SV) (e k off : Nat) (b1 : Nat) : storeB d (some (.cells l e)) k off (.mp b1) H n κ = (d.size = 1 ∧ off < l.length ∧ κ .und ((k, .cells (l.set off (.mp b1)) e) :: H) n) := by simp [storeB, oneCellS]
theorem store_cellsR (d : TyD) (l : List SV) (e k off : Nat) (M : List SV) : storeB d (some (.cells l e)) k off (.stc M) H n κ = (M.all oneCellS = true ∧ M.length = d.size ∧ off + M.length ≤ l.length ∧ κ .und ((k, .cells (l.take off ++ M ++ l.drop (off + M.length)) e) :: H) n) := rfl
end
theorem cut_zero (m off es : Nat) : cutOff m 0 off es = off := by simp [cutOff]
/-! Literals. -/
def bdM (o : Option (List Int)) (H : Heap) (n : Nat) (κ : K1) : Prop := match o with
  | some L => κ (.arr L) H n
  | none => False
theorem bdM_some (L : List Int) (H : Heap) (n : Nat) (κ : K1) : bdM (some L) H n κ = κ (.arr L) H n := rfl
def fillA (es : Nat) (Z : List Int) (l : List (Nat × SV)) : Option (List Int) := fillI (fun i => some (i * es, es)) Z l
def fillS (τ : Tys) (fs : List (Nat × Nat)) (Z : List Int) (l : List (Nat × SV)) : Option (List Int) := fillI (fun i => (fs[i]?).map fun x => (x.1, (τ x.2).size)) Z l
theorem bd_arr (τ : Tys) (k e s b : Nat) (Z : List Int) (parts : List (Nat × SV)) (H : Heap) (n : Nat) (κ : K1) : buildVC τ ⟨.arr k e, s, b, .arr Z⟩ parts H n κ = ((τ e).k ≠ .other ∧ bdM (fillA (τ e).size Z parts) H n κ) := rfl
theorem bd_str (τ : Tys) (fs : List (Nat × Nat)) (s b : Nat) (Z : List Int) (parts : List (Nat × SV)) (H : Heap) (n : Nat) (κ : K1) : buildVC τ ⟨.str fs, s, b, .arr Z⟩ parts H n κ = ((fs.all fun x => match (τ x.2).k with | .other => false | _ => true) = true ∧ bdM (fillS τ fs Z parts) H n κ) := rfl
theorem fA_nil (es : Nat) (Z : List Int) : fillA es Z [] = some Z := rfl
theorem fA_int (Z : List Int) (i : Nat) (x : Int) (r : List (Nat × SV)) : fillA 1 Z ((i, .int x) :: r) = if i < Z.length then fillA 1 (Z.set i x) r else none := by
  simp [fillA, fillI]
theorem fA_arr (es : Nat) (Z M : List Int) (i : Nat) (r : List (Nat × SV)) : fillA es Z ((i, .arr M) :: r) = if M.length = es ∧ i * es + M.length ≤ Z.length then fillA es (Z.take (i * es) ++ M ++ Z.drop (i * es + M.length)) r else none := by
  simp only [fillA]
  conv => lhs; unfold fillI
  split
  · rename_i h; cases h
  · rename_i h h2; cases h; cases h2; rfl
  · rename_i h; exact absurd rfl (h _ _ _ rfl)
theorem fS_nil (τ : Tys) (fs : List (Nat × Nat)) (Z : List Int) : fillS τ fs Z [] = some Z := rfl
def fSt (τ : Tys) (fs : List (Nat × Nat)) (Z : List Int) (v : SV) (r : List (Nat × SV)) (o : Option (Nat × Nat)) : Option (List Int) := match o, v with
  | some (off, 1), .int x => if off < Z.length then fillS τ fs (Z.set off x) r else none
  | some (off, s), .arr M => if M.length = s ∧ off + M.length ≤ Z.length then fillS τ fs (Z.take off ++ M ++ Z.drop (off + M.length)) r else none
  | _, _ => none
theorem fS_cons (τ : Tys) (fs : List (Nat × Nat)) (Z : List Int) (i : Nat) (v : SV) (r : List (Nat × SV)) : fillS τ fs Z ((i, v) :: r) = fSt τ fs Z v r ((fs[i]?).map fun x => (x.1, (τ x.2).size)) := by
  simp only [fillS]
  conv => lhs; unfold fillI
  unfold fSt
  rfl
theorem fSt_int (τ : Tys) (fs : List (Nat × Nat)) (Z : List Int) (x : Int) (r : List (Nat × SV)) (off : Nat) : fSt τ fs Z (.int x) r (some (off, 1)) = if off < Z.length then fillS τ fs (Z.set off x) r else none := rfl
theorem fSt_arr (τ : Tys) (fs : List (Nat × Nat)) (Z M : List Int) (r : List (Nat × SV)) (off s : Nat) : fSt τ fs Z (.arr M) r (some (off, s)) = if M.length = s ∧ off + M.length ≤ Z.length then fillS τ fs (Z.take off ++ M ++ Z.drop (off + M.length)) r else none := by
  unfold fSt
  split
  · rename_i h; cases h
  · rename_i h h2; cases h; cases h2; rfl
  · rename_i h; exact absurd rfl (h _ _ _ rfl)
/-! A struct of several kinds. -/
def bdT (o : Option (List SV)) (H : Heap) (n : Nat) (κ : K1) : Prop := match o with
  | some L => κ (.stc L) H n
  | none => False
theorem bdT_some (L : List SV) (H : Heap) (n : Nat) (κ : K1) : bdT (some L) H n κ = κ (.stc L) H n := rfl
def fillR (fs : List (Nat × Nat)) (Z : List SV) (l : List (Nat × SV)) : Option (List SV) := fillT (fun i => (fs[i]?).map fun x => x.1) Z l
theorem bd_stc (τ : Tys) (fs : List (Nat × Nat)) (s b : Nat) (Z : List SV) (parts : List (Nat × SV)) (H : Heap) (n : Nat) (κ : K1) : buildVC τ ⟨.str fs, s, b, .stc Z⟩ parts H n κ = (Z.all flat1 = true ∧ (fs.all fun x => match (τ x.2).k with | .other => false | _ => true) = true ∧ (fs.all fun x => (τ x.2).size == 1) = true ∧ bdT (fillR fs Z parts) H n κ) := rfl
theorem fR_nil (fs : List (Nat × Nat)) (Z : List SV) : fillR fs Z [] = some Z := rfl
def fRt (fs : List (Nat × Nat)) (Z : List SV) (v : SV) (r : List (Nat × SV)) (o : Option Nat) (c : Bool) : Option (List SV) := match o, c with
  | some off, true => if off < Z.length then fillR fs (Z.set off v) r else none
  | _, _ => none
theorem fR_cons (fs : List (Nat × Nat)) (Z : List SV) (i : Nat) (v : SV) (r : List (Nat × SV)) : fillR fs Z ((i, v) :: r) = fRt fs Z v r ((fs[i]?).map fun x => x.1) (oneCellS v) := by
  simp only [fillR]
  conv => lhs; unfold fillT
  unfold fRt
  rfl
theorem fRt_some (fs : List (Nat × Nat)) (Z : List SV) (v : SV) (r : List (Nat × SV)) (off : Nat) : fRt fs Z v r (some off) true = if off < Z.length then fillR fs (Z.set off v) r else none := rfl
theorem rep2_set (x y : Int) : ((List.replicate 2 (0 : Int)).set 0 x).set 1 y = [x, y] := rfl
theorem rep3_set (x y z : Int) : (((List.replicate 3 (0 : Int)).set 0 x).set 1 y).set 2 z = [x, y, z] := rfl
/-! Slices made. -/
def bsM (o : Option (List Int)) (len e : Nat) (H : Heap) (n : Nat) (κ : K1) : Prop := match o with
  | some L => κ (.slice n 0 len len) ((n, .ints L e) :: H) (n + 1)
  | none => False
theorem bsM_some (L : List Int) (len e : Nat) (H : Heap) (n : Nat) (κ : K1) : bsM (some L) len e H n κ = κ (.slice n 0 len len) ((n, .ints L e) :: H) (n + 1) := rfl
theorem bs_sl (τ : Tys) (e s b : Nat) (z : SV) (len : Nat) (parts : List (Nat × SV)) (H : Heap) (n : Nat) (κ : K1) : buildSliceVC τ ⟨.sl e, s, b, z⟩ len parts H n κ =
    ((τ e).k ≠ .other ∧ isZ (τ e).z (τ e).size = true ∧ 0 < (τ e).size ∧ len * (τ e).size ≤ 16777216 ∧ bsM (fillA (τ e).size (List.replicate (len * (τ e).size) 0) parts) len e H n κ) := rfl
def msM (z : SV) (s e : Nat) (x y : Int) (H : Heap) (n : Nat) (κ : K1) : Prop := match z with
  | .nils => s = 1 ∧ κ (.slice n 0 x.toNat y.toNat) ((n, .cells (List.replicate y.toNat .nils) e) :: H) (n + 1)
  | z => isZ z s = true ∧ κ (.slice n 0 x.toNat y.toNat) ((n, .ints (List.replicate (y.toNat * s) 0) e) :: H) (n + 1)
theorem msM_nils (s e : Nat) (x y : Int) (H : Heap) (n : Nat) (κ : K1) : msM .nils s e x y H n κ = (s = 1 ∧ κ (.slice n 0 x.toNat y.toNat) ((n, .cells (List.replicate y.toNat .nils) e) :: H) (n + 1)) := rfl
theorem msM_int (i : Int) (s e : Nat) (x y : Int) (H : Heap) (n : Nat) (κ : K1) : msM (.int i) s e x y H n κ = (isZ (.int i) s = true ∧ κ (.slice n 0 x.toNat y.toNat) ((n, .ints (List.replicate (y.toNat * s) 0) e) :: H) (n + 1)) := rfl
theorem msM_arr (L : List Int) (s e : Nat) (x y : Int) (H : Heap) (n : Nat) (κ : K1) : msM (.arr L) s e x y H n κ = (isZ (.arr L) s = true ∧ κ (.slice n 0 x.toNat y.toNat) ((n, .ints (List.replicate (y.toNat * s) 0) e) :: H) (n + 1)) := rfl
theorem ms_sl (τ : Tys) (e s b : Nat) (z : SV) (x y : Int) (H : Heap) (n : Nat) (κ : K1) : makeSliceVC τ ⟨.sl e, s, b, z⟩ (.int x) (.int y) H n κ =
    ((τ e).k ≠ .other ∧ 0 < (τ e).size ∧ 0 ≤ x ∧ x ≤ y ∧ y ≤ 9223372036854775807 ∧ (τ e).bytes * y ≤ 140737488355328 ∧ msM (τ e).z (τ e).size e x y H n κ) := rfl
theorem isZ_int : isZ (.int 0) 1 = true := rfl
theorem isZ_arr (s : Nat) : isZ (.arr (List.replicate s 0)) s = true := by simp [isZ]
def srcB (es : Nat) (o : Option SObj) (off len : Nat) (κ : List Int → Nat → Prop) : Prop := match o with
  | some (.ints L _) => 0 < len ∧ off + len * es ≤ L.length ∧ κ ((L.drop off).take (len * es)) len
  | _ => False
theorem src_sl (es b off len cap : Nat) (H : Heap) (κ : List Int → Nat → Prop) : srcVC es (.slice b off len cap) H κ = srcB es (hget H b) off len κ := by
  simp only [srcVC, srcB]
  rcases hget H b with _ | o
  · rfl
  · cases o <;> rfl
theorem srcB_ints (es : Nat) (L : List Int) (e off len : Nat) (κ : List Int → Nat → Prop) : srcB es (some (.ints L e)) off len κ = (0 < len ∧ off + len * es ≤ L.length ∧ κ ((L.drop off).take (len * es)) len) := rfl
theorem srcE_zero (b o c : Nat) : srcE (.slice b o 0 c) = true := rfl
theorem srcE_one (b o c : Nat) : srcE (.slice b o 1 c) = false := rfl
theorem srcE_succ (b o k c : Nat) : srcE (.slice b o (k + 1) c) = false := rfl
theorem srcE_nils : srcE .nils = true := rfl
theorem ap_nils (τ : Tys) (m e s b : Nat) (z x : SV) (H : Heap) (n : Nat) (κ : K1) (hx : srcE x = false) : appendVC τ m ⟨.sl e, s, b, z⟩ .nils x H n κ = ((τ e).k ≠ .other ∧ isZ (τ e).z (τ e).size = true ∧ 0 < (τ e).size ∧
    srcVC (τ e).size x H fun news k => k * (τ e).bytes ≤ 140737488355328 ∧ k ≤ 9223372036854775807 ∧ ∀ (junk : List Int) (cap : Nat), junk.length + k * (τ e).size = cap * (τ e).size → κ (.slice n 0 k cap) ((n, .ints (news ++ junk) e) :: H) (n + 1)) := by
  unfold appendVC
  simp only [hx]
theorem ap_e_nils (τ : Tys) (m e s b : Nat) (z x : SV) (H : Heap) (n : Nat) (κ : K1) (hx : srcE x = true) : appendVC τ m ⟨.sl e, s, b, z⟩ .nils x H n κ = ((τ e).k ≠ .other ∧ isZ (τ e).z (τ e).size = true ∧ 0 < (τ e).size ∧ κ .nils H n) := by
  unfold appendVC
  simp only [hx, keepVC]
theorem ap_e_sl (τ : Tys) (m e s b0 : Nat) (z : SV) (b len cap : Nat) (x : SV) (H : Heap) (n : Nat) (κ : K1) (hx : srcE x = true) : appendVC τ m ⟨.sl e, s, b0, z⟩ (.slice b 0 len cap) x H n κ = ((τ e).k ≠ .other ∧ isZ (τ e).z (τ e).size = true ∧ 0 < (τ e).size ∧ len ≤ cap ∧ κ (.slice b 0 len cap) H n) := by
  unfold appendVC
  simp only [hx, keepVC]
def apB (τ : Tys) (m e b len cap : Nat) (o : Option SObj) (x : SV) (H : Heap) (n : Nat) (κ : K1) : Prop := match o with
  | some (.ints L e') => m ≤ b ∧ e' = e ∧ L.length = cap * (τ e).size ∧ len ≤ cap ∧ srcVC (τ e).size x H fun news k => (len + k) * (τ e).bytes ≤ 140737488355328 ∧ len + k ≤ 9223372036854775807 ∧
      ∀ (junk : List Int) (cap' : Nat), junk.length + (len + k) * (τ e).size = cap' * (τ e).size → κ (.slice n 0 (len + k) cap') ((n, .ints (L.take (len * (τ e).size) ++ news ++ junk) e) :: (b, .dead) :: H) (n + 1)
  | _ => False
theorem ap_sl (τ : Tys) (m e s b0 : Nat) (z : SV) (b len cap : Nat) (x : SV) (H : Heap) (n : Nat) (κ : K1) (hx : srcE x = false) : appendVC τ m ⟨.sl e, s, b0, z⟩ (.slice b 0 len cap) x H n κ = ((τ e).k ≠ .other ∧ isZ (τ e).z (τ e).size = true ∧ 0 < (τ e).size ∧ apB τ m e b len cap (hget H b) x H n κ) := by
  simp only [appendVC, apB, hx]
  rcases hget H b with _ | o
  · rfl
  · cases o <;> rfl
theorem apB_ints (τ : Tys) (m e b len cap : Nat) (L : List Int) (e' : Nat) (x : SV) (H : Heap) (n : Nat) (κ : K1) : apB τ m e b len cap (some (.ints L e')) x H n κ = (m ≤ b ∧ e' = e ∧ L.length = cap * (τ e).size ∧ len ≤ cap ∧ srcVC (τ e).size x H fun news k => (len + k) * (τ e).bytes ≤ 140737488355328 ∧ len + k ≤ 9223372036854775807 ∧
      ∀ (junk : List Int) (cap' : Nat), junk.length + (len + k) * (τ e).size = cap' * (τ e).size → κ (.slice n 0 (len + k) cap') ((n, .ints (L.take (len * (τ e).size) ++ news ++ junk) e) :: (b, .dead) :: H) (n + 1)) := rfl
def clB (m b off k : Nat) (len : Nat) (o : Option SObj) (H : Heap) (n : Nat) (κ : K1) : Prop := match o with
  | some (.ints L e') => m ≤ b ∧ 0 < len ∧ off + k ≤ L.length ∧ κ (.tup []) ((b, .ints (L.take off ++ List.replicate k 0 ++ L.drop (off + k)) e') :: H) n
  | _ => False
theorem cl_sl (τ : Tys) (m e s b0 : Nat) (z : SV) (b off len cap : Nat) (H : Heap) (n : Nat) (κ : K1) : clearVC τ m ⟨.sl e, s, b0, z⟩ (.slice b off len cap) H n κ = ((τ e).k ≠ .other ∧ isZ (τ e).z (τ e).size = true ∧ 0 < (τ e).size ∧ clB m b off (len * (τ e).size) len (hget H b) H n κ) := by
  simp only [clearVC, clB]
  rcases hget H b with _ | o
  · rfl
  · cases o <;> rfl
theorem clB_ints (m b off k len : Nat) (L : List Int) (e' : Nat) (H : Heap) (n : Nat) (κ : K1) : clB m b off k len (some (.ints L e')) H n κ = (m ≤ b ∧ 0 < len ∧ off + k ≤ L.length ∧ κ (.tup []) ((b, .ints (L.take off ++ List.replicate k 0 ++ L.drop (off + k)) e') :: H) n) := rfl

/-! Regions whose stores go into holes. -/
section
variable (X : Cx) (all : Array Oper) (rest : List Oper) (S : Env) (H : Heap) (n : Nat) (K : KR) (κ : K1)
def restH (d : Option Tmp) : K1 := fun v H n => opsVH X all rest (sput S d v) H n K
theorem oh_nil : opsVH X all [] S H n K = K S H n := rfl
theorem oh_run (d : Option Tmp) (op : Op) (ty : TypeId) (pos : String) (af : Array Edge) : opsVH X all (⟨d, op, ty, pos, af, none⟩ :: rest) S H n K = opHVC X op S H n (restH X all rest S K d) := rfl
theorem resth_eq (d : Option Tmp) (v : SV) (H' : Heap) (n' : Nat) : restH X all rest S K d v H' n' = opsVH X all rest (sput S d v) H' n' K := rfl
def ghRun (op : Op) (d : Option Tmp) : Unit → Prop := fun _ => opHVC X op S H n (restH X all rest S K d)
def ghSkip (d : Option Tmp) : Unit → Prop := fun _ => opsVH X all rest (sput S d .und) H n K
theorem ghRun_eq (op : Op) (d : Option Tmp) : ghRun X all rest S H n K op d () = opHVC X op S H n (restH X all rest S K d) := rfl
theorem ghSkip_eq (d : Option Tmp) : ghSkip X all rest S H n K d () = opsVH X all rest (sput S d .und) H n K := rfl
def ghB (v : SV) (t : Nat) (want : Bool) (op : Op) (d : Option Tmp) : Prop := match v with
  | .bool c => match want with
    | true => bSplit c (ghRun X all rest ((t, .bool true) :: S) H n K op d) (ghSkip X all rest ((t, .bool false) :: S) H n K d)
    | false => bSplit c (ghSkip X all rest ((t, .bool true) :: S) H n K d) (ghRun X all rest ((t, .bool false) :: S) H n K op d)
  | .und => opsVH X all rest (sput S d .und) H n K
  | _ => False
theorem ghB_t (c : Bool) (t : Nat) (op : Op) (d : Option Tmp) : ghB X all rest S H n K (.bool c) t true op d = bSplit c (ghRun X all rest ((t, .bool true) :: S) H n K op d) (ghSkip X all rest ((t, .bool false) :: S) H n K d) := rfl
theorem ghB_f (c : Bool) (t : Nat) (op : Op) (d : Option Tmp) : ghB X all rest S H n K (.bool c) t false op d = bSplit c (ghSkip X all rest ((t, .bool true) :: S) H n K d) (ghRun X all rest ((t, .bool false) :: S) H n K op d) := rfl
theorem ghB_und (t : Nat) (want : Bool) (op : Op) (d : Option Tmp) : ghB X all rest S H n K .und t want op d = opsVH X all rest (sput S d .und) H n K := rfl
def ghT (t : Option Tmp) (want : Bool) (op : Op) (d : Option Tmp) : Prop := match t with
  | some t => ghB X all rest S H n K (sget S t) t want op d
  | none => False
theorem ghT_some (t : Nat) (want : Bool) (op : Op) (d : Option Tmp) : ghT X all rest S H n K (some t) want op d = ghB X all rest S H n K (sget S t) t want op d := rfl
theorem oh_guard (l : List Oper) (d : Option Tmp) (op : Op) (ty : TypeId) (pos : String) (af : Array Edge) (j : Nat) (want : Bool) :
    opsVH X l.toArray (⟨d, op, ty, pos, af, some (j, want)⟩ :: rest) S H n K = ghT X l.toArray rest S H n K (dstAt l j) want op d := by
  conv => lhs; unfold opsVH
  simp only [dstAt, ghT, List.getElem?_toArray]
  cases hq : (l[j]?).bind (·.dst) with
  | none => rfl
  | some t =>
    simp only
    unfold ghB
    cases hs : sget S t with
    | bool c => cases want <;> cases c <;> simp [bSplit, ghRun, ghSkip] <;> rfl
    | _ => rfl
end
section
variable (X : Cx) (S : Env) (H : Heap) (n : Nat) (κ : K1)
theorem h_move (x : Operand) : opHVC X (.move x) S H n κ = opVC X true (.move x) S H n κ := rfl
theorem h_assign (x : Operand) : opHVC X (.assign x) S H n κ = opVC X true (.assign x) S H n κ := rfl
theorem h_pick (c a b : Operand) : opHVC X (.pick c a b) S H n κ = opVC X true (.pick c a b) S H n κ := rfl
theorem h_binOp (o : BinOp) (t : TypeId) (x y : Operand) (u : TypeId) : opHVC X (.binOp o t x y u) S H n κ = opVC X true (.binOp o t x y u) S H n κ := rfl
theorem h_unOp (o : UnOp) (t : TypeId) (x : Operand) : opHVC X (.unOp o t x) S H n κ = opVC X true (.unOp o t x) S H n κ := rfl
theorem h_extract (x : Operand) (i : Nat) : opHVC X (.extract x i) S H n κ = opVC X true (.extract x i) S H n κ := rfl
theorem h_fieldAddr (t : TypeId) (x : Operand) (f : Nat) : opHVC X (.fieldAddr t x f) S H n κ = opVC X true (.fieldAddr t x f) S H n κ := rfl
theorem h_field (t : TypeId) (x : Operand) (f : Nat) : opHVC X (.field t x f) S H n κ = opVC X true (.field t x f) S H n κ := rfl
theorem h_indexAddr (t : TypeId) (x i : Operand) : opHVC X (.indexAddr t x i) S H n κ = opVC X true (.indexAddr t x i) S H n κ := rfl
theorem h_index (t : TypeId) (x i : Operand) : opHVC X (.index t x i) S H n κ = opVC X true (.index t x i) S H n κ := rfl
theorem h_slice (t : TypeId) (x : Operand) (a b c : Option Operand) : opHVC X (.slice t x a b c) S H n κ = opVC X true (.slice t x a b c) S H n κ := rfl
theorem h_load (t : TypeId) (x : Operand) : opHVC X (.load t x) S H n κ = opVC X true (.load t x) S H n κ := rfl
theorem h_call (c : Call) : opHVC X (.call c) S H n κ = opVC X true (.call c) S H n κ := rfl
theorem h_store (t : TypeId) (x y : Operand) : opHVC X (.store t x y) S H n κ = storeHVC X.m (X.τ t) (ev S x) (ev S y) H n κ := rfl
theorem h_alloc (e : TypeId) : opHVC X (.alloc e) S H n κ = allocHVC (X.τ e) e H n κ := rfl
end
def sthB (d : TyD) (o : Option SObj) (b : Nat) (v : SV) (H : Heap) (n : Nat) (κ : K1) : Prop := match o with
  | some (.hole k e) => d.size = k ∧ match blockOf v e with
    | some o' => objSize o' = some (k, e) ∧ κ .und ((b, o') :: H) n
    | none => False
  | _ => False
theorem sth_ptr (m : Nat) (d : TyD) (b : Nat) (v : SV) (H : Heap) (n : Nat) (κ : K1) : storeHVC m d (.ptr b 0) v H n κ = (m ≤ b ∧ d.k ≠ .other ∧ sthB d (hget H b) b v H n κ) := by
  simp only [storeHVC, sthB]
  rcases hget H b with _ | o
  · rfl
  · cases o <;> rfl
theorem sth_arr (d : TyD) (k e b : Nat) (L : List Int) (H : Heap) (n : Nat) (κ : K1) : sthB d (some (.hole k e)) b (.arr L) H n κ = (d.size = k ∧ L.length = k ∧ κ .und ((b, .ints L e) :: H) n) := by simp [sthB, blockOf, objSize]
theorem sth_int (d : TyD) (k e b : Nat) (x : Int) (H : Heap) (n : Nat) (κ : K1) : sthB d (some (.hole k e)) b (.int x) H n κ = (d.size = k ∧ 1 = k ∧ κ .und ((b, .ints [x] e) :: H) n) := by simp [sthB, blockOf, objSize]
theorem ah_int (s b e : Nat) (k : Kd) (x : Int) (H : Heap) (n : Nat) (κ : K1) : allocHVC ⟨k, s, b, .int x⟩ e H n κ = (k ≠ .other ∧ κ (.ptr n 0) ((n, .hole 1 e) :: H) (n + 1)) := by simp [allocHVC, blockOf, objSize, flat]
theorem ah_arr (s b e : Nat) (k : Kd) (L : List Int) (H : Heap) (n : Nat) (κ : K1) : allocHVC ⟨k, s, b, .arr L⟩ e H n κ = (k ≠ .other ∧ κ (.ptr n 0) ((n, .hole L.length e) :: H) (n + 1)) := by simp [allocHVC, blockOf, objSize, flat]
theorem sH_nil (S : Env) (H : Heap) (κ : Heap → Prop) : startH [] S H κ = κ H := rfl
def sHO (ts : List Nat) (S : Env) (H : Heap) (κ : Heap → Prop) (b : Nat) (o : Option SObj) : Prop := match o with
  | some o => match objSize o with
    | some (k, e) => startH ts S ((b, .hole k e) :: H) κ
    | none => False
  | none => False
def sHB (ts : List Nat) (S : Env) (H : Heap) (κ : Heap → Prop) (v : SV) : Prop := match v with
  | .ptr b 0 => sHO ts S H κ b (hget H b)
  | _ => False
theorem sH_cons (t : Nat) (ts : List Nat) (S : Env) (H : Heap) (κ : Heap → Prop) : startH (t :: ts) S H κ = sHB ts S H κ (sget S t) := by
  conv => lhs; unfold startH
  unfold sHB sHO
  rfl
theorem sHB_ptr (ts : List Nat) (S : Env) (H : Heap) (κ : Heap → Prop) (b : Nat) : sHB ts S H κ (.ptr b 0) = sHO ts S H κ b (hget H b) := rfl
theorem sHO_ints (ts : List Nat) (S : Env) (H : Heap) (κ : Heap → Prop) (b : Nat) (L : List Int) (e : Nat) : sHO ts S H κ b (some (.ints L e)) = startH ts S ((b, .hole L.length e) :: H) κ := rfl
theorem sHO_bls (ts : List Nat) (S : Env) (H : Heap) (κ : Heap → Prop) (b : Nat) (L : List Bool) (e : Nat) : sHO ts S H κ b (some (.bls L e)) = startH ts S ((b, .hole L.length e) :: H) κ := rfl
/-! The equations in three bundles. -/
theorem SB : type_of% (
  And.intro @bs_true <|
  And.intro @bs_false <|
  And.intro @bs_not <|
  And.intro @bs_dec <|
  And.intro @codeU_eq <|
  And.intro @cv_skip <|
  And.intro @cv_region <|
  And.intro @regB_none <|
  And.intro @endK_eq <|
  And.intro @regB_some <|
  And.intro @regB_tree <|
  And.intro @jk <|
  And.intro @treeK_eq <|
  And.intro @tv_done <|
  And.intro @tv_stop <|
  And.intro @opAt_some <|
  And.intro @tv_one <|
  And.intro @tv_alt <|
  And.intro @o_insert <|
  And.intro @cv_seq <|
  And.intro @condB_bool <|
  And.intro @cv_cond <|
  And.intro @cv_block <|
  And.intro @cv_exit <|
  And.intro @cv_ret <|
  And.intro @sk_normal <|
  And.intro @sk_exit <|
  And.intro @sk_ret <|
  And.intro @bk_normal <|
  And.intro @bk_exit <|
  And.intro @bk_ret <|
  And.intro @nk <|
  And.intro @lk_exit <|
  And.intro @lk_ret <|
  And.intro @rk_normal <|
  And.intro @rk_ret <|
  And.intro @rv_nil <|
  And.intro @rv_tmp <|
  And.intro @rvK_eq <|
  And.intro @rv_cell <|
  And.intro @ov_nil <|
  And.intro @ov_run <|
  And.intro @rest_eq <|
  And.intro @gdRun_eq <|
  And.intro @gdSkip_eq <|
  And.intro @gdB_t <|
  And.intro @gdB_f <|
  And.intro @gdB_und <|
  And.intro @gdT_some <|
  And.intro @ov_guard <|
  And.intro @sget_cons <|
  And.intro @sput_some <|
  And.intro @sput_none <|
  And.intro @tl_cons <|
  And.intro @tl_nil <|
  And.intro @ev_tmp <|
  And.intro @ev_func <|
  And.intro @ev_int <|
  And.intro @ev_bool <|
  And.intro @hv_none <|
  And.intro @hv_some <|
  And.intro @ev_nils <|
  And.intro @ev_agg <|
  And.intro @o_move <|
  And.intro @o_assign <|
  And.intro @o_pick <|
  And.intro @o_load <|
  And.intro @o_bin <|
  And.intro @o_conv <|
  And.intro @o_un <|
  And.intro @o_extract <|
  And.intro @o_makeFunc <|
  And.intro @o_fieldAddr <|
  And.intro @o_field <|
  And.intro @o_nilCheck <|
  And.intro @o_indexAddr <|
  And.intro @o_index <|
  And.intro @o_lookup <|
  And.intro @o_mapUpdate <|
  And.intro @o_makeMap <|
  And.intro @o_slice <|
  And.intro @o_build <|
  And.intro @o_len <|
  And.intro @o_min <|
  And.intro @o_max <|
  And.intro @o_append <|
  And.intro @o_clear <|
  And.intro @o_alloc <|
  And.intro @o_box <|
  And.intro @o_store <|
  And.intro @o_buildSlice <|
  And.intro @o_makeSlice <|
  And.intro @o_call <|
  And.intro @o_callD <|
  And.intro @isIn_nil <|
  And.intro @isIn_cons <|
  And.intro @isIn_tmp <|
  And.intro @call_fn <|
  And.intro @callPG_some <|
  And.intro @callPG_none <|
  And.intro @callG_some <|
  And.intro @resP_some <|
  And.intro @cellM_some <|
  And.intro @pickU_eq <|
  And.intro @pick_bool <|
  And.intro @load_ptr <|
  And.intro @load_int <|
  And.intro @load_arr <|
  And.intro @load_str <|
  And.intro @load_wint <|
  And.intro @load_warr <|
  And.intro @load_wstr <|
  And.intro @load_bool <|
  And.intro @load_cellsI <|
  And.intro @load_cellsB <|
  And.intro @load_cellsL <|
  And.intro @load_cellsM <|
  And.intro @load_cellsS <|
  And.intro @load_cellsU <|
  And.intro @load_winU <|
  And.intro @load_cellsR <|
  And.intro @bin_ii <|
  And.intro @i_add <|
  And.intro @i_sub <|
  And.intro @i_mul <|
  And.intro @i_quo <|
  And.intro @i_rem <|
  And.intro @i_eql <|
  And.intro @i_neq <|
  And.intro @i_lss <|
  And.intro @i_leq <|
  And.intro @i_gtr <|
  And.intro @i_geq <|
  And.intro @ar_t <|
  And.intro @ar_f <|
  And.intro @bin_ll <|
  And.intro @bin_li <|
  And.intro @n_add <|
  And.intro @n_sub <|
  And.intro @n_mul <|
  And.intro @n_and <|
  And.intro @n_xor <|
  And.intro @n_shr <|
  And.intro @cv_int <|
  And.intro @cv_lit <|
  And.intro @ci_int <|
  And.intro @ci_num <|
  And.intro @ev_u64 <|
  And.intro @ev_u8 <|
  And.intro @bin_bb_eql <|
  And.intro @bin_bb_neq <|
  And.intro @bin_aa_eql <|
  And.intro @bin_aa_neq <|
  And.intro @un_not <|
  And.intro @un_neg <|
  And.intro @extract_zero <|
  And.intro @extract_succ <|
  And.intro @makeFunc_func <|
  And.intro @fa_str <|
  And.intro @f_str <|
  And.intro @f_stc <|
  And.intro @nil_ptr <|
  And.intro @part_int <|
  And.intro @part_arr <|
  And.intro @part_str <|
  And.intro @ia_arr <|
  And.intro @ia_sl <|
  And.intro @ix_arr <|
  And.intro @sl_arr <|
  And.intro @sl_sl <|
  And.intro @sl_nils <|
  And.intro @bnd_none <|
  And.intro @bnd_some <|
  And.intro @len_sl <|
  And.intro @len_mp <|
  And.intro @lenMB_mp <|
  And.intro @lk_mp <|
  And.intro @lkB_mp <|
  And.intro @lkR_t <|
  And.intro @lkR_f <|
  And.intro @mvS_t <|
  And.intro @mvS_f <|
  And.intro @mz_t <|
  And.intro @mz_f <|
  And.intro @mu_mp <|
  And.intro @muB_t <|
  And.intro @muB_f <|
  And.intro @mk_mp <|
  And.intro @mkB_t <|
  And.intro @mkB_f <|
  And.intro @len_nils <|
  And.intro @b_len <|
  And.intro @b_min <|
  And.intro @b_max <|
  And.intro @new_int <|
  And.intro @new_arr <|
  And.intro @new_bool <|
  And.intro @new_barr <|
  And.intro @new_ptr <|
  And.intro @new_slice <|
  And.intro @new_nils <|
  And.intro @litNil_nil <|
  And.intro @new_nilf <|
  And.intro @new_mp <|
  And.intro @new_stc <|
  And.intro @new_fn <|
  And.intro @store_ptr <|
  And.intro @store_int <|
  And.intro @store_arr <|
  And.intro @store_bool <|
  And.intro @store_cellsI <|
  And.intro @store_cellsB <|
  And.intro @store_cellsP <|
  And.intro @store_cellsL <|
  And.intro @store_cellsN <|
  And.intro @store_cellsF <|
  And.intro @store_cellsU <|
  And.intro @store_cellsM <|
  And.intro @store_cellsR <|
  And.intro @cut_zero <|
  And.intro @bdM_some <|
  And.intro @bd_arr <|
  And.intro @bd_str <|
  And.intro @fA_nil <|
  And.intro @fA_int <|
  And.intro @fA_arr <|
  And.intro @fS_nil <|
  And.intro @fS_cons <|
  And.intro @fSt_int <|
  And.intro @fSt_arr <|
  And.intro @bdT_some <|
  And.intro @bd_stc <|
  And.intro @fR_nil <|
  And.intro @fR_cons <|
  And.intro @fRt_some <|
  And.intro @rep2_set <|
  And.intro @rep3_set <|
  And.intro @bsM_some <|
  And.intro @bs_sl <|
  And.intro @msM_nils <|
  And.intro @msM_int <|
  And.intro @msM_arr <|
  And.intro @ms_sl <|
  And.intro @isZ_int <|
  And.intro @isZ_arr <|
  And.intro @src_sl <|
  And.intro @srcB_ints <|
  And.intro @srcE_zero <|
  And.intro @srcE_one <|
  And.intro @srcE_succ <|
  And.intro @srcE_nils <|
  And.intro @ap_nils <|
  And.intro @ap_e_nils <|
  And.intro @ap_e_sl <|
  And.intro @ap_sl <|
  And.intro @apB_ints <|
  And.intro @cl_sl <|
  And.intro @clB_ints <|
  And.intro @oh_nil <|
  And.intro @oh_run <|
  And.intro @resth_eq <|
  And.intro @ghRun_eq <|
  And.intro @ghSkip_eq <|
  And.intro @ghB_t <|
  And.intro @ghB_f <|
  And.intro @ghB_und <|
  And.intro @ghT_some <|
  And.intro @oh_guard <|
  And.intro @h_move <|
  And.intro @h_assign <|
  And.intro @h_pick <|
  And.intro @h_binOp <|
  And.intro @h_unOp <|
  And.intro @h_extract <|
  And.intro @h_fieldAddr <|
  And.intro @h_field <|
  And.intro @h_indexAddr <|
  And.intro @h_index <|
  And.intro @h_slice <|
  And.intro @h_load <|
  And.intro @h_call <|
  And.intro @h_store <|
  And.intro @h_alloc <|
  And.intro @sth_ptr <|
  And.intro @sth_arr <|
  And.intro @sth_int <|
  And.intro @ah_int <|
  And.intro @ah_arr <|
  And.intro @sH_nil <|
  And.intro @sH_cons <|
  And.intro @sHB_ptr <|
  And.intro @sHO_ints <|
  And.intro @sHO_bls <|
  And.intro @dstAt_zero <|
  And.intro @dstAt_succ <|
  And.intro @hget_cons <|
  And.intro @List.map_cons.{0, 0} <|
  And.intro @List.map_nil.{0, 0} <|
  And.intro @List.all_cons.{0} <|
  And.intro @List.all_nil.{0} <|
  And.intro @List.reverse_cons.{0} <|
  And.intro @List.reverse_nil.{0} <|
  And.intro @List.nil_append.{0} <|
  And.intro @List.cons_append.{0} <|
  And.intro @List.append_nil.{0} <|
  And.intro @Option.map_some.{0, 0} <|
  And.intro @Option.map_none.{0, 0} <|
  And.intro @Bool.and_true <|
  And.intro @Bool.true_and <|
  And.intro @Bool.and_self <|
  And.intro @true_and <|
  And.intro @and_true <|
  And.intro @not_false_eq_true <|
  And.intro @Nat.zero_add <|
  And.intro @Nat.add_zero <|
  And.intro @Nat.succ_ne_self <|
  And.intro @List.getElem?_cons_zero.{0} <|
  And.intro @List.getElem?_cons_succ.{0} <|
  And.intro @SV.int.injEq <|
  And.intro @SV.bool.injEq <|
  And.intro @SV.arr.injEq <|
  And.intro @SV.tup.injEq <|
  And.intro @List.cons.injEq.{0} <|
  And.intro @Nat.le_refl <|
  And.intro @Nat.zero_le <|
  And.intro @Nat.one_ne_zero <|
  And.intro @List.drop_zero.{0} <|
  And.intro @beq_self_eq_true.{0} <|
  And.intro @List.set_cons_zero.{0} <|
  And.intro @List.set_cons_succ.{0} <|
  And.intro @List.drop_succ_cons.{0} <|
  And.intro @List.drop_nil.{0} <|
  And.intro @Bool.not_true <|
  And.intro @Bool.not_false <|
  And.intro @decide_true <|
  And.intro @decide_false <| @decide_eq_true_eq) :=
  And.intro @bs_true <|
  And.intro @bs_false <|
  And.intro @bs_not <|
  And.intro @bs_dec <|
  And.intro @codeU_eq <|
  And.intro @cv_skip <|
  And.intro @cv_region <|
  And.intro @regB_none <|
  And.intro @endK_eq <|
  And.intro @regB_some <|
  And.intro @regB_tree <|
  And.intro @jk <|
  And.intro @treeK_eq <|
  And.intro @tv_done <|
  And.intro @tv_stop <|
  And.intro @opAt_some <|
  And.intro @tv_one <|
  And.intro @tv_alt <|
  And.intro @o_insert <|
  And.intro @cv_seq <|
  And.intro @condB_bool <|
  And.intro @cv_cond <|
  And.intro @cv_block <|
  And.intro @cv_exit <|
  And.intro @cv_ret <|
  And.intro @sk_normal <|
  And.intro @sk_exit <|
  And.intro @sk_ret <|
  And.intro @bk_normal <|
  And.intro @bk_exit <|
  And.intro @bk_ret <|
  And.intro @nk <|
  And.intro @lk_exit <|
  And.intro @lk_ret <|
  And.intro @rk_normal <|
  And.intro @rk_ret <|
  And.intro @rv_nil <|
  And.intro @rv_tmp <|
  And.intro @rvK_eq <|
  And.intro @rv_cell <|
  And.intro @ov_nil <|
  And.intro @ov_run <|
  And.intro @rest_eq <|
  And.intro @gdRun_eq <|
  And.intro @gdSkip_eq <|
  And.intro @gdB_t <|
  And.intro @gdB_f <|
  And.intro @gdB_und <|
  And.intro @gdT_some <|
  And.intro @ov_guard <|
  And.intro @sget_cons <|
  And.intro @sput_some <|
  And.intro @sput_none <|
  And.intro @tl_cons <|
  And.intro @tl_nil <|
  And.intro @ev_tmp <|
  And.intro @ev_func <|
  And.intro @ev_int <|
  And.intro @ev_bool <|
  And.intro @hv_none <|
  And.intro @hv_some <|
  And.intro @ev_nils <|
  And.intro @ev_agg <|
  And.intro @o_move <|
  And.intro @o_assign <|
  And.intro @o_pick <|
  And.intro @o_load <|
  And.intro @o_bin <|
  And.intro @o_conv <|
  And.intro @o_un <|
  And.intro @o_extract <|
  And.intro @o_makeFunc <|
  And.intro @o_fieldAddr <|
  And.intro @o_field <|
  And.intro @o_nilCheck <|
  And.intro @o_indexAddr <|
  And.intro @o_index <|
  And.intro @o_lookup <|
  And.intro @o_mapUpdate <|
  And.intro @o_makeMap <|
  And.intro @o_slice <|
  And.intro @o_build <|
  And.intro @o_len <|
  And.intro @o_min <|
  And.intro @o_max <|
  And.intro @o_append <|
  And.intro @o_clear <|
  And.intro @o_alloc <|
  And.intro @o_box <|
  And.intro @o_store <|
  And.intro @o_buildSlice <|
  And.intro @o_makeSlice <|
  And.intro @o_call <|
  And.intro @o_callD <|
  And.intro @isIn_nil <|
  And.intro @isIn_cons <|
  And.intro @isIn_tmp <|
  And.intro @call_fn <|
  And.intro @callPG_some <|
  And.intro @callPG_none <|
  And.intro @callG_some <|
  And.intro @resP_some <|
  And.intro @cellM_some <|
  And.intro @pickU_eq <|
  And.intro @pick_bool <|
  And.intro @load_ptr <|
  And.intro @load_int <|
  And.intro @load_arr <|
  And.intro @load_str <|
  And.intro @load_wint <|
  And.intro @load_warr <|
  And.intro @load_wstr <|
  And.intro @load_bool <|
  And.intro @load_cellsI <|
  And.intro @load_cellsB <|
  And.intro @load_cellsL <|
  And.intro @load_cellsM <|
  And.intro @load_cellsS <|
  And.intro @load_cellsU <|
  And.intro @load_winU <|
  And.intro @load_cellsR <|
  And.intro @bin_ii <|
  And.intro @i_add <|
  And.intro @i_sub <|
  And.intro @i_mul <|
  And.intro @i_quo <|
  And.intro @i_rem <|
  And.intro @i_eql <|
  And.intro @i_neq <|
  And.intro @i_lss <|
  And.intro @i_leq <|
  And.intro @i_gtr <|
  And.intro @i_geq <|
  And.intro @ar_t <|
  And.intro @ar_f <|
  And.intro @bin_ll <|
  And.intro @bin_li <|
  And.intro @n_add <|
  And.intro @n_sub <|
  And.intro @n_mul <|
  And.intro @n_and <|
  And.intro @n_xor <|
  And.intro @n_shr <|
  And.intro @cv_int <|
  And.intro @cv_lit <|
  And.intro @ci_int <|
  And.intro @ci_num <|
  And.intro @ev_u64 <|
  And.intro @ev_u8 <|
  And.intro @bin_bb_eql <|
  And.intro @bin_bb_neq <|
  And.intro @bin_aa_eql <|
  And.intro @bin_aa_neq <|
  And.intro @un_not <|
  And.intro @un_neg <|
  And.intro @extract_zero <|
  And.intro @extract_succ <|
  And.intro @makeFunc_func <|
  And.intro @fa_str <|
  And.intro @f_str <|
  And.intro @f_stc <|
  And.intro @nil_ptr <|
  And.intro @part_int <|
  And.intro @part_arr <|
  And.intro @part_str <|
  And.intro @ia_arr <|
  And.intro @ia_sl <|
  And.intro @ix_arr <|
  And.intro @sl_arr <|
  And.intro @sl_sl <|
  And.intro @sl_nils <|
  And.intro @bnd_none <|
  And.intro @bnd_some <|
  And.intro @len_sl <|
  And.intro @len_mp <|
  And.intro @lenMB_mp <|
  And.intro @lk_mp <|
  And.intro @lkB_mp <|
  And.intro @lkR_t <|
  And.intro @lkR_f <|
  And.intro @mvS_t <|
  And.intro @mvS_f <|
  And.intro @mz_t <|
  And.intro @mz_f <|
  And.intro @mu_mp <|
  And.intro @muB_t <|
  And.intro @muB_f <|
  And.intro @mk_mp <|
  And.intro @mkB_t <|
  And.intro @mkB_f <|
  And.intro @len_nils <|
  And.intro @b_len <|
  And.intro @b_min <|
  And.intro @b_max <|
  And.intro @new_int <|
  And.intro @new_arr <|
  And.intro @new_bool <|
  And.intro @new_barr <|
  And.intro @new_ptr <|
  And.intro @new_slice <|
  And.intro @new_nils <|
  And.intro @litNil_nil <|
  And.intro @new_nilf <|
  And.intro @new_mp <|
  And.intro @new_stc <|
  And.intro @new_fn <|
  And.intro @store_ptr <|
  And.intro @store_int <|
  And.intro @store_arr <|
  And.intro @store_bool <|
  And.intro @store_cellsI <|
  And.intro @store_cellsB <|
  And.intro @store_cellsP <|
  And.intro @store_cellsL <|
  And.intro @store_cellsN <|
  And.intro @store_cellsF <|
  And.intro @store_cellsU <|
  And.intro @store_cellsM <|
  And.intro @store_cellsR <|
  And.intro @cut_zero <|
  And.intro @bdM_some <|
  And.intro @bd_arr <|
  And.intro @bd_str <|
  And.intro @fA_nil <|
  And.intro @fA_int <|
  And.intro @fA_arr <|
  And.intro @fS_nil <|
  And.intro @fS_cons <|
  And.intro @fSt_int <|
  And.intro @fSt_arr <|
  And.intro @bdT_some <|
  And.intro @bd_stc <|
  And.intro @fR_nil <|
  And.intro @fR_cons <|
  And.intro @fRt_some <|
  And.intro @rep2_set <|
  And.intro @rep3_set <|
  And.intro @bsM_some <|
  And.intro @bs_sl <|
  And.intro @msM_nils <|
  And.intro @msM_int <|
  And.intro @msM_arr <|
  And.intro @ms_sl <|
  And.intro @isZ_int <|
  And.intro @isZ_arr <|
  And.intro @src_sl <|
  And.intro @srcB_ints <|
  And.intro @srcE_zero <|
  And.intro @srcE_one <|
  And.intro @srcE_succ <|
  And.intro @srcE_nils <|
  And.intro @ap_nils <|
  And.intro @ap_e_nils <|
  And.intro @ap_e_sl <|
  And.intro @ap_sl <|
  And.intro @apB_ints <|
  And.intro @cl_sl <|
  And.intro @clB_ints <|
  And.intro @oh_nil <|
  And.intro @oh_run <|
  And.intro @resth_eq <|
  And.intro @ghRun_eq <|
  And.intro @ghSkip_eq <|
  And.intro @ghB_t <|
  And.intro @ghB_f <|
  And.intro @ghB_und <|
  And.intro @ghT_some <|
  And.intro @oh_guard <|
  And.intro @h_move <|
  And.intro @h_assign <|
  And.intro @h_pick <|
  And.intro @h_binOp <|
  And.intro @h_unOp <|
  And.intro @h_extract <|
  And.intro @h_fieldAddr <|
  And.intro @h_field <|
  And.intro @h_indexAddr <|
  And.intro @h_index <|
  And.intro @h_slice <|
  And.intro @h_load <|
  And.intro @h_call <|
  And.intro @h_store <|
  And.intro @h_alloc <|
  And.intro @sth_ptr <|
  And.intro @sth_arr <|
  And.intro @sth_int <|
  And.intro @ah_int <|
  And.intro @ah_arr <|
  And.intro @sH_nil <|
  And.intro @sH_cons <|
  And.intro @sHB_ptr <|
  And.intro @sHO_ints <|
  And.intro @sHO_bls <|
  And.intro @dstAt_zero <|
  And.intro @dstAt_succ <|
  And.intro @hget_cons <|
  And.intro @List.map_cons.{0, 0} <|
  And.intro @List.map_nil.{0, 0} <|
  And.intro @List.all_cons.{0} <|
  And.intro @List.all_nil.{0} <|
  And.intro @List.reverse_cons.{0} <|
  And.intro @List.reverse_nil.{0} <|
  And.intro @List.nil_append.{0} <|
  And.intro @List.cons_append.{0} <|
  And.intro @List.append_nil.{0} <|
  And.intro @Option.map_some.{0, 0} <|
  And.intro @Option.map_none.{0, 0} <|
  And.intro @Bool.and_true <|
  And.intro @Bool.true_and <|
  And.intro @Bool.and_self <|
  And.intro @true_and <|
  And.intro @and_true <|
  And.intro @not_false_eq_true <|
  And.intro @Nat.zero_add <|
  And.intro @Nat.add_zero <|
  And.intro @Nat.succ_ne_self <|
  And.intro @List.getElem?_cons_zero.{0} <|
  And.intro @List.getElem?_cons_succ.{0} <|
  And.intro @SV.int.injEq <|
  And.intro @SV.bool.injEq <|
  And.intro @SV.arr.injEq <|
  And.intro @SV.tup.injEq <|
  And.intro @List.cons.injEq.{0} <|
  And.intro @Nat.le_refl <|
  And.intro @Nat.zero_le <|
  And.intro @Nat.one_ne_zero <|
  And.intro @List.drop_zero.{0} <|
  And.intro @beq_self_eq_true.{0} <|
  And.intro @List.set_cons_zero.{0} <|
  And.intro @List.set_cons_succ.{0} <|
  And.intro @List.drop_succ_cons.{0} <|
  And.intro @List.drop_nil.{0} <|
  And.intro @Bool.not_true <|
  And.intro @Bool.not_false <|
  And.intro @decide_true <|
  And.intro @decide_false <| @decide_eq_true_eq
theorem ZB : type_of% (
  And.intro @Nat.zero_mul <|
  And.intro @Nat.one_mul <|
  And.intro @Nat.mul_one <|
  And.intro @Int.cast_ofNat_Int <|
  And.intro @Int.toNat_zero <|
  And.intro @Int.toNat_one <|
  And.intro @Int.le_refl <|
  And.intro @Int.toNat_natCast <|
  And.intro @List.length_replicate.{0} <|
  And.intro @List.length_set.{0} <|
  And.intro @List.length_cons.{0} <|
  And.intro @List.length_nil.{0} <|
  And.intro @List.take_zero.{0} <|
  And.intro @List.drop_replicate.{0} <|
  And.intro @List.replicate_zero.{0} <|
  And.intro @List.take_succ_cons.{0} <|
  And.intro @Nat.sub_self <|
  And.intro @Nat.lt_add_one <|
  And.intro @Nat.zero_lt_one <|
  And.intro @Nat.one_lt_two <|
  And.intro @Nat.zero_lt_two <|
  And.intro @Nat.one_pos <|
  And.intro @Nat.zero_lt_succ <|
  And.intro @Nat.sub_zero <|
  And.intro @Bool.false_and <|
  And.intro @Bool.and_false <|
  And.intro @Bool.false_eq_true <|
  And.intro @false_implies <| @true_implies) :=
  And.intro @Nat.zero_mul <|
  And.intro @Nat.one_mul <|
  And.intro @Nat.mul_one <|
  And.intro @Int.cast_ofNat_Int <|
  And.intro @Int.toNat_zero <|
  And.intro @Int.toNat_one <|
  And.intro @Int.le_refl <|
  And.intro @Int.toNat_natCast <|
  And.intro @List.length_replicate.{0} <|
  And.intro @List.length_set.{0} <|
  And.intro @List.length_cons.{0} <|
  And.intro @List.length_nil.{0} <|
  And.intro @List.take_zero.{0} <|
  And.intro @List.drop_replicate.{0} <|
  And.intro @List.replicate_zero.{0} <|
  And.intro @List.take_succ_cons.{0} <|
  And.intro @Nat.sub_self <|
  And.intro @Nat.lt_add_one <|
  And.intro @Nat.zero_lt_one <|
  And.intro @Nat.one_lt_two <|
  And.intro @Nat.zero_lt_two <|
  And.intro @Nat.one_pos <|
  And.intro @Nat.zero_lt_succ <|
  And.intro @Nat.sub_zero <|
  And.intro @Bool.false_and <|
  And.intro @Bool.and_false <|
  And.intro @Bool.false_eq_true <|
  And.intro @false_implies <| @true_implies
theorem LB : type_of% (
  And.intro @sget_cons <|
  And.intro @hget_cons <|
  And.intro @and_true <|
  And.intro @true_and <|
  And.intro @and_self <|
  And.intro @SV.int.injEq <|
  And.intro @SV.bool.injEq <|
  And.intro @SV.arr.injEq <|
  And.intro @SV.barr.injEq <|
  And.intro @SV.ptr.injEq <|
  And.intro @SV.slice.injEq <|
  And.intro @SV.fn.injEq <|
  And.intro @SV.tup.injEq <|
  And.intro @SV.stc.injEq <|
  And.intro @SV.mp.injEq <|
  And.intro @SObj.ints.injEq <|
  And.intro @SObj.bls.injEq <|
  And.intro @SObj.cells.injEq <|
  And.intro @Option.some.injEq.{0} <|
  And.intro @List.cons.injEq.{0} <|
  And.intro @Nat.le_refl <|
  And.intro @Nat.zero_le <|
  And.intro @Int.natCast_add <|
  And.intro @Int.natCast_one <|
  And.intro @Int.cast_ofNat_Int <|
  And.intro @Nat.succ_ne_self <|
  And.intro @Nat.lt_add_one <|
  And.intro @false_implies <|
  And.intro @Nat.lt_irrefl <|
  And.intro @Nat.lt_one_iff <|
  And.intro @Nat.one_pos <|
  And.intro @Nat.zero_lt_one <| @true_implies) :=
  And.intro @sget_cons <|
  And.intro @hget_cons <|
  And.intro @and_true <|
  And.intro @true_and <|
  And.intro @and_self <|
  And.intro @SV.int.injEq <|
  And.intro @SV.bool.injEq <|
  And.intro @SV.arr.injEq <|
  And.intro @SV.barr.injEq <|
  And.intro @SV.ptr.injEq <|
  And.intro @SV.slice.injEq <|
  And.intro @SV.fn.injEq <|
  And.intro @SV.tup.injEq <|
  And.intro @SV.stc.injEq <|
  And.intro @SV.mp.injEq <|
  And.intro @SObj.ints.injEq <|
  And.intro @SObj.bls.injEq <|
  And.intro @SObj.cells.injEq <|
  And.intro @Option.some.injEq.{0} <|
  And.intro @List.cons.injEq.{0} <|
  And.intro @Nat.le_refl <|
  And.intro @Nat.zero_le <|
  And.intro @Int.natCast_add <|
  And.intro @Int.natCast_one <|
  And.intro @Int.cast_ofNat_Int <|
  And.intro @Nat.succ_ne_self <|
  And.intro @Nat.lt_add_one <|
  And.intro @false_implies <|
  And.intro @Nat.lt_irrefl <|
  And.intro @Nat.lt_one_iff <|
  And.intro @Nat.one_pos <|
  And.intro @Nat.zero_lt_one <| @true_implies
end Go.Proofs.Ytckcojgfgcjamaa
set_option maxRecDepth 100000
namespace Go.Proofs.Ytckcojgfgcjamaa
open Go Go.RowKit

def tys : Tys := fun t => match t with
  | 1 => ⟨.sca, 1, 8, .lit .nilFunc⟩
  | 2 => ⟨.int, 1, 8, .int 0⟩
  | 3 => ⟨.int, 1, 8, .int 0⟩
  | 4 => ⟨.bool, 1, 1, .bool false⟩
  | 5 => ⟨.num .u8, 1, 1, .lit (.int .u8 0)⟩
  | 6 => ⟨.num .u8, 1, 1, .lit (.int .u8 0)⟩
  | 7 => ⟨.str [(0, 2), (1, 3), (2, 4), (3, 6)], 4, 24, .stc [.int 0, .int 0, .bool false, .lit (.int .u8 0)]⟩
  | 8 => ⟨.str [(0, 2), (1, 3), (2, 4), (3, 6)], 4, 24, .stc [.int 0, .int 0, .bool false, .lit (.int .u8 0)]⟩
  | 12 => ⟨.num .u64, 1, 8, .lit (.int .u64 0)⟩
  | 13 => ⟨.str [(0, 9), (1, 12)], 2, 24, .non⟩
  | 14 => ⟨.str [(0, 9), (1, 12)], 2, 24, .non⟩
  | 15 => ⟨.sca, 1, 8, .non⟩
  | 16 => ⟨.sca, 1, 8, .non⟩
  | 17 => ⟨.sca, 1, 8, .non⟩
  | 18 => ⟨.str [(0, 17)], 1, 8, .stc [.lit (.pointer none)]⟩
  | 19 => ⟨.str [(0, 17)], 1, 8, .stc [.lit (.pointer none)]⟩
  | 21 => ⟨.num .i32, 1, 4, .lit (.int .i32 0)⟩
  | 22 => ⟨.sl 5, 1, 24, .nils⟩
  | 23 => ⟨.sca, 1, 8, .lit .nilFunc⟩
  | 24 => ⟨.arr 4 3, 4, 32, .arr (List.replicate 4 0)⟩
  | 25 => ⟨.arr 6 24, 24, 192, .arr (List.replicate 24 0)⟩
  | 26 => ⟨.str [(0, 25)], 24, 192, .arr (List.replicate 24 0)⟩
  | 27 => ⟨.str [(0, 25)], 24, 192, .arr (List.replicate 24 0)⟩
  | 28 => ⟨.sca, 1, 8, .lit .nilFunc⟩
  | 29 => ⟨.arr 6 3, 6, 48, .arr (List.replicate 6 0)⟩
  | 30 => ⟨.str [(0, 29), (6, 29), (12, 29)], 18, 144, .arr (List.replicate 18 0)⟩
  | 31 => ⟨.str [(0, 29), (6, 29), (12, 29)], 18, 144, .arr (List.replicate 18 0)⟩
  | 33 => ⟨.sca, 1, 8, .lit .nilFunc⟩
  | 35 => ⟨.sca, 1, 8, .lit .nilFunc⟩
  | 37 => ⟨.sca, 1, 8, .lit .nilFunc⟩
  | 38 => ⟨.sca, 1, 8, .lit .nilFunc⟩
  | 40 => ⟨.sca, 1, 8, .lit .nilFunc⟩
  | 41 => ⟨.sca, 1, 8, .lit .nilFunc⟩
  | 42 => ⟨.sca, 1, 8, .lit .nilFunc⟩
  | 44 => ⟨.sca, 1, 8, .lit .nilFunc⟩
  | 46 => ⟨.sca, 1, 8, .lit .nilFunc⟩
  | 47 => ⟨.arr 2 3, 2, 16, .arr (List.replicate 2 0)⟩
  | 49 => ⟨.sca, 1, 8, .lit .nilFunc⟩
  | 50 => ⟨.sca, 1, 8, .lit .nilFunc⟩
  | 51 => ⟨.sca, 1, 8, .lit .nilFunc⟩
  | 53 => ⟨.sca, 1, 8, .lit .nilFunc⟩
  | 54 => ⟨.sl 47, 1, 24, .nils⟩
  | 56 => ⟨.sca, 1, 8, .lit .nilFunc⟩
  | 57 => ⟨.sca, 1, 8, .lit .nilFunc⟩
  | 58 => ⟨.sca, 1, 8, .lit .nilFunc⟩
  | 60 => ⟨.sca, 1, 8, .lit .nilFunc⟩
  | 62 => ⟨.sca, 1, 8, .lit .nilFunc⟩
  | 63 => ⟨.sca, 1, 8, .lit .nilFunc⟩
  | 65 => ⟨.sca, 1, 8, .lit .nilFunc⟩
  | 66 => ⟨.sca, 1, 8, .lit .nilFunc⟩
  | 67 => ⟨.sca, 1, 8, .lit .nilFunc⟩
  | 68 => ⟨.sca, 1, 8, .lit .nilFunc⟩
  | 69 => ⟨.sca, 1, 8, .lit .nilFunc⟩
  | 70 => ⟨.sca, 1, 8, .lit .nilFunc⟩
  | 71 => ⟨.sca, 1, 8, .lit .nilFunc⟩
  | 72 => ⟨.sl 3, 1, 24, .nils⟩
  | 73 => ⟨.sca, 1, 8, .lit .nilFunc⟩
  | 74 => ⟨.sca, 1, 8, .lit .nilFunc⟩
  | 76 => ⟨.sca, 1, 8, .lit .nilFunc⟩
  | 77 => ⟨.sca, 1, 8, .non⟩
  | 78 => ⟨.num .u64, 1, 8, .lit (.int .u64 0)⟩
  | 79 => ⟨.str [(0, 22), (1, 3), (2, 78)], 3, 40, .stc [.nils, .int 0, .lit (.int .u64 0)]⟩
  | 80 => ⟨.str [(0, 22), (1, 3), (2, 78)], 3, 40, .stc [.nils, .int 0, .lit (.int .u64 0)]⟩
  | 81 => ⟨.sca, 1, 8, .lit .nilFunc⟩
  | 82 => ⟨.sca, 1, 8, .lit .nilFunc⟩
  | 83 => ⟨.sca, 1, 8, .lit .nilFunc⟩
  | 84 => ⟨.sca, 1, 8, .lit .nilFunc⟩
  | 85 => ⟨.sca, 1, 8, .lit .nilFunc⟩
  | 86 => ⟨.sca, 1, 8, .lit .nilFunc⟩
  | 87 => ⟨.sca, 1, 8, .lit .nilFunc⟩
  | 88 => ⟨.sca, 1, 8, .lit .nilFunc⟩
  | 89 => ⟨.sca, 1, 8, .lit .nilFunc⟩
  | 90 => ⟨.sca, 1, 8, .lit .nilFunc⟩
  | 91 => ⟨.arr 5 3, 5, 40, .arr (List.replicate 5 0)⟩
  | 93 => ⟨.sca, 1, 8, .lit .nilFunc⟩
  | 94 => ⟨.sca, 1, 8, .lit .nilFunc⟩
  | 95 => ⟨.sca, 1, 8, .lit .nilFunc⟩
  | 96 => ⟨.sca, 1, 8, .lit .nilFunc⟩
  | 97 => ⟨.sca, 1, 8, .lit .nilFunc⟩
  | 98 => ⟨.sca, 1, 8, .lit .nilFunc⟩
  | 99 => ⟨.sca, 1, 8, .lit .nilFunc⟩
  | 100 => ⟨.sca, 1, 8, .lit .nilFunc⟩
  | 101 => ⟨.sca, 1, 8, .lit .nilFunc⟩
  | 102 => ⟨.sca, 1, 8, .lit .nilFunc⟩
  | 103 => ⟨.sca, 1, 8, .lit .nilFunc⟩
  | 104 => ⟨.sca, 1, 8, .lit .nilFunc⟩
  | 106 => ⟨.sca, 1, 8, .lit .nilFunc⟩
  | 107 => ⟨.sca, 1, 8, .lit .nilFunc⟩
  | 108 => ⟨.sca, 1, 8, .lit .nilFunc⟩
  | 109 => ⟨.sca, 1, 8, .lit .nilFunc⟩
  | 110 => ⟨.sl 24, 1, 24, .nils⟩
  | 111 => ⟨.sca, 1, 8, .lit .nilFunc⟩
  | 113 => ⟨.sca, 1, 8, .lit .nilFunc⟩
  | 114 => ⟨.sca, 1, 8, .lit .nilFunc⟩
  | 115 => ⟨.sca, 1, 8, .lit .nilFunc⟩
  | 116 => ⟨.arr 6 4, 6, 6, .barr (List.replicate 6 false)⟩
  | 117 => ⟨.sca, 1, 8, .lit .nilFunc⟩
  | 118 => ⟨.sca, 1, 8, .lit .nilFunc⟩
  | 119 => ⟨.num .u64, 1, 8, .lit (.int .u64 0)⟩
  | 120 => ⟨.sca, 1, 8, .lit .nilFunc⟩
  | 121 => ⟨.sca, 1, 8, .lit .nilFunc⟩
  | 122 => ⟨.sca, 1, 8, .lit .nilFunc⟩
  | 123 => ⟨.str [(0, 17), (1, 17), (2, 17), (3, 9)], 4, 40, .non⟩
  | 124 => ⟨.str [(0, 17), (1, 17), (2, 17), (3, 9)], 4, 40, .non⟩
  | 125 => ⟨.arr 0 16, 0, 0, .non⟩
  | 126 => ⟨.str [(0, 125)], 0, 0, .non⟩
  | 127 => ⟨.str [(0, 125)], 0, 0, .non⟩
  | 128 => ⟨.num .u32, 1, 4, .lit (.int .u32 0)⟩
  | 129 => ⟨.num .u8, 1, 1, .lit (.int .u8 0)⟩
  | 130 => ⟨.num .u8, 1, 1, .lit (.int .u8 0)⟩
  | 131 => ⟨.sca, 1, 8, .lit .nilFunc⟩
  | 132 => ⟨.sca, 1, 8, .non⟩
  | 133 => ⟨.num .i32, 1, 4, .lit (.int .i32 0)⟩
  | 134 => ⟨.num .i32, 1, 4, .lit (.int .i32 0)⟩
  | 135 => ⟨.str [(0, 12), (1, 12), (2, 128), (3, 129), (4, 5), (5, 5), (6, 130), (7, 131), (8, 132), (9, 133), (10, 134)], 11, 48, .non⟩
  | 136 => ⟨.str [(0, 12), (1, 12), (2, 128), (3, 129), (4, 5), (5, 5), (6, 130), (7, 131), (8, 132), (9, 133), (10, 134)], 11, 48, .non⟩
  | _ => ⟨.other, 0, 0, .non⟩
theorem ty_1 : tys 1 = ⟨.sca, 1, 8, .lit .nilFunc⟩ := rfl
theorem ty_2 : tys 2 = ⟨.int, 1, 8, .int 0⟩ := rfl
theorem ty_3 : tys 3 = ⟨.int, 1, 8, .int 0⟩ := rfl
theorem ty_4 : tys 4 = ⟨.bool, 1, 1, .bool false⟩ := rfl
theorem ty_5 : tys 5 = ⟨.num .u8, 1, 1, .lit (.int .u8 0)⟩ := rfl
theorem ty_6 : tys 6 = ⟨.num .u8, 1, 1, .lit (.int .u8 0)⟩ := rfl
theorem ty_7 : tys 7 = ⟨.str [(0, 2), (1, 3), (2, 4), (3, 6)], 4, 24, .stc [.int 0, .int 0, .bool false, .lit (.int .u8 0)]⟩ := rfl
theorem ty_8 : tys 8 = ⟨.str [(0, 2), (1, 3), (2, 4), (3, 6)], 4, 24, .stc [.int 0, .int 0, .bool false, .lit (.int .u8 0)]⟩ := rfl
theorem ty_12 : tys 12 = ⟨.num .u64, 1, 8, .lit (.int .u64 0)⟩ := rfl
theorem ty_13 : tys 13 = ⟨.str [(0, 9), (1, 12)], 2, 24, .non⟩ := rfl
theorem ty_14 : tys 14 = ⟨.str [(0, 9), (1, 12)], 2, 24, .non⟩ := rfl
theorem ty_15 : tys 15 = ⟨.sca, 1, 8, .non⟩ := rfl
theorem ty_16 : tys 16 = ⟨.sca, 1, 8, .non⟩ := rfl
theorem ty_17 : tys 17 = ⟨.sca, 1, 8, .non⟩ := rfl
theorem ty_18 : tys 18 = ⟨.str [(0, 17)], 1, 8, .stc [.lit (.pointer none)]⟩ := rfl
theorem ty_19 : tys 19 = ⟨.str [(0, 17)], 1, 8, .stc [.lit (.pointer none)]⟩ := rfl
theorem ty_21 : tys 21 = ⟨.num .i32, 1, 4, .lit (.int .i32 0)⟩ := rfl
theorem ty_22 : tys 22 = ⟨.sl 5, 1, 24, .nils⟩ := rfl
theorem ty_23 : tys 23 = ⟨.sca, 1, 8, .lit .nilFunc⟩ := rfl
theorem ty_24 : tys 24 = ⟨.arr 4 3, 4, 32, .arr (List.replicate 4 0)⟩ := rfl
theorem ty_25 : tys 25 = ⟨.arr 6 24, 24, 192, .arr (List.replicate 24 0)⟩ := rfl
theorem ty_26 : tys 26 = ⟨.str [(0, 25)], 24, 192, .arr (List.replicate 24 0)⟩ := rfl
theorem ty_27 : tys 27 = ⟨.str [(0, 25)], 24, 192, .arr (List.replicate 24 0)⟩ := rfl
theorem ty_28 : tys 28 = ⟨.sca, 1, 8, .lit .nilFunc⟩ := rfl
theorem ty_29 : tys 29 = ⟨.arr 6 3, 6, 48, .arr (List.replicate 6 0)⟩ := rfl
theorem ty_30 : tys 30 = ⟨.str [(0, 29), (6, 29), (12, 29)], 18, 144, .arr (List.replicate 18 0)⟩ := rfl
theorem ty_31 : tys 31 = ⟨.str [(0, 29), (6, 29), (12, 29)], 18, 144, .arr (List.replicate 18 0)⟩ := rfl
theorem ty_33 : tys 33 = ⟨.sca, 1, 8, .lit .nilFunc⟩ := rfl
theorem ty_35 : tys 35 = ⟨.sca, 1, 8, .lit .nilFunc⟩ := rfl
theorem ty_37 : tys 37 = ⟨.sca, 1, 8, .lit .nilFunc⟩ := rfl
theorem ty_38 : tys 38 = ⟨.sca, 1, 8, .lit .nilFunc⟩ := rfl
theorem ty_40 : tys 40 = ⟨.sca, 1, 8, .lit .nilFunc⟩ := rfl
theorem ty_41 : tys 41 = ⟨.sca, 1, 8, .lit .nilFunc⟩ := rfl
theorem ty_42 : tys 42 = ⟨.sca, 1, 8, .lit .nilFunc⟩ := rfl
theorem ty_44 : tys 44 = ⟨.sca, 1, 8, .lit .nilFunc⟩ := rfl
theorem ty_46 : tys 46 = ⟨.sca, 1, 8, .lit .nilFunc⟩ := rfl
theorem ty_47 : tys 47 = ⟨.arr 2 3, 2, 16, .arr (List.replicate 2 0)⟩ := rfl
theorem ty_49 : tys 49 = ⟨.sca, 1, 8, .lit .nilFunc⟩ := rfl
theorem ty_50 : tys 50 = ⟨.sca, 1, 8, .lit .nilFunc⟩ := rfl
theorem ty_51 : tys 51 = ⟨.sca, 1, 8, .lit .nilFunc⟩ := rfl
theorem ty_53 : tys 53 = ⟨.sca, 1, 8, .lit .nilFunc⟩ := rfl
theorem ty_54 : tys 54 = ⟨.sl 47, 1, 24, .nils⟩ := rfl
theorem ty_56 : tys 56 = ⟨.sca, 1, 8, .lit .nilFunc⟩ := rfl
theorem ty_57 : tys 57 = ⟨.sca, 1, 8, .lit .nilFunc⟩ := rfl
theorem ty_58 : tys 58 = ⟨.sca, 1, 8, .lit .nilFunc⟩ := rfl
theorem ty_60 : tys 60 = ⟨.sca, 1, 8, .lit .nilFunc⟩ := rfl
theorem ty_62 : tys 62 = ⟨.sca, 1, 8, .lit .nilFunc⟩ := rfl
theorem ty_63 : tys 63 = ⟨.sca, 1, 8, .lit .nilFunc⟩ := rfl
theorem ty_65 : tys 65 = ⟨.sca, 1, 8, .lit .nilFunc⟩ := rfl
theorem ty_66 : tys 66 = ⟨.sca, 1, 8, .lit .nilFunc⟩ := rfl
theorem ty_67 : tys 67 = ⟨.sca, 1, 8, .lit .nilFunc⟩ := rfl
theorem ty_68 : tys 68 = ⟨.sca, 1, 8, .lit .nilFunc⟩ := rfl
theorem ty_69 : tys 69 = ⟨.sca, 1, 8, .lit .nilFunc⟩ := rfl
theorem ty_70 : tys 70 = ⟨.sca, 1, 8, .lit .nilFunc⟩ := rfl
theorem ty_71 : tys 71 = ⟨.sca, 1, 8, .lit .nilFunc⟩ := rfl
theorem ty_72 : tys 72 = ⟨.sl 3, 1, 24, .nils⟩ := rfl
theorem ty_73 : tys 73 = ⟨.sca, 1, 8, .lit .nilFunc⟩ := rfl
theorem ty_74 : tys 74 = ⟨.sca, 1, 8, .lit .nilFunc⟩ := rfl
theorem ty_76 : tys 76 = ⟨.sca, 1, 8, .lit .nilFunc⟩ := rfl
theorem ty_77 : tys 77 = ⟨.sca, 1, 8, .non⟩ := rfl
theorem ty_78 : tys 78 = ⟨.num .u64, 1, 8, .lit (.int .u64 0)⟩ := rfl
theorem ty_79 : tys 79 = ⟨.str [(0, 22), (1, 3), (2, 78)], 3, 40, .stc [.nils, .int 0, .lit (.int .u64 0)]⟩ := rfl
theorem ty_80 : tys 80 = ⟨.str [(0, 22), (1, 3), (2, 78)], 3, 40, .stc [.nils, .int 0, .lit (.int .u64 0)]⟩ := rfl
theorem ty_81 : tys 81 = ⟨.sca, 1, 8, .lit .nilFunc⟩ := rfl
theorem ty_82 : tys 82 = ⟨.sca, 1, 8, .lit .nilFunc⟩ := rfl
theorem ty_83 : tys 83 = ⟨.sca, 1, 8, .lit .nilFunc⟩ := rfl
theorem ty_84 : tys 84 = ⟨.sca, 1, 8, .lit .nilFunc⟩ := rfl
theorem ty_85 : tys 85 = ⟨.sca, 1, 8, .lit .nilFunc⟩ := rfl
theorem ty_86 : tys 86 = ⟨.sca, 1, 8, .lit .nilFunc⟩ := rfl
theorem ty_87 : tys 87 = ⟨.sca, 1, 8, .lit .nilFunc⟩ := rfl
theorem ty_88 : tys 88 = ⟨.sca, 1, 8, .lit .nilFunc⟩ := rfl
theorem ty_89 : tys 89 = ⟨.sca, 1, 8, .lit .nilFunc⟩ := rfl
theorem ty_90 : tys 90 = ⟨.sca, 1, 8, .lit .nilFunc⟩ := rfl
theorem ty_91 : tys 91 = ⟨.arr 5 3, 5, 40, .arr (List.replicate 5 0)⟩ := rfl
theorem ty_93 : tys 93 = ⟨.sca, 1, 8, .lit .nilFunc⟩ := rfl
theorem ty_94 : tys 94 = ⟨.sca, 1, 8, .lit .nilFunc⟩ := rfl
theorem ty_95 : tys 95 = ⟨.sca, 1, 8, .lit .nilFunc⟩ := rfl
theorem ty_96 : tys 96 = ⟨.sca, 1, 8, .lit .nilFunc⟩ := rfl
theorem ty_97 : tys 97 = ⟨.sca, 1, 8, .lit .nilFunc⟩ := rfl
theorem ty_98 : tys 98 = ⟨.sca, 1, 8, .lit .nilFunc⟩ := rfl
theorem ty_99 : tys 99 = ⟨.sca, 1, 8, .lit .nilFunc⟩ := rfl
theorem ty_100 : tys 100 = ⟨.sca, 1, 8, .lit .nilFunc⟩ := rfl
theorem ty_101 : tys 101 = ⟨.sca, 1, 8, .lit .nilFunc⟩ := rfl
theorem ty_102 : tys 102 = ⟨.sca, 1, 8, .lit .nilFunc⟩ := rfl
theorem ty_103 : tys 103 = ⟨.sca, 1, 8, .lit .nilFunc⟩ := rfl
theorem ty_104 : tys 104 = ⟨.sca, 1, 8, .lit .nilFunc⟩ := rfl
theorem ty_106 : tys 106 = ⟨.sca, 1, 8, .lit .nilFunc⟩ := rfl
theorem ty_107 : tys 107 = ⟨.sca, 1, 8, .lit .nilFunc⟩ := rfl
theorem ty_108 : tys 108 = ⟨.sca, 1, 8, .lit .nilFunc⟩ := rfl
theorem ty_109 : tys 109 = ⟨.sca, 1, 8, .lit .nilFunc⟩ := rfl
theorem ty_110 : tys 110 = ⟨.sl 24, 1, 24, .nils⟩ := rfl
theorem ty_111 : tys 111 = ⟨.sca, 1, 8, .lit .nilFunc⟩ := rfl
theorem ty_113 : tys 113 = ⟨.sca, 1, 8, .lit .nilFunc⟩ := rfl
theorem ty_114 : tys 114 = ⟨.sca, 1, 8, .lit .nilFunc⟩ := rfl
theorem ty_115 : tys 115 = ⟨.sca, 1, 8, .lit .nilFunc⟩ := rfl
theorem ty_116 : tys 116 = ⟨.arr 6 4, 6, 6, .barr (List.replicate 6 false)⟩ := rfl
theorem ty_117 : tys 117 = ⟨.sca, 1, 8, .lit .nilFunc⟩ := rfl
theorem ty_118 : tys 118 = ⟨.sca, 1, 8, .lit .nilFunc⟩ := rfl
theorem ty_119 : tys 119 = ⟨.num .u64, 1, 8, .lit (.int .u64 0)⟩ := rfl
theorem ty_120 : tys 120 = ⟨.sca, 1, 8, .lit .nilFunc⟩ := rfl
theorem ty_121 : tys 121 = ⟨.sca, 1, 8, .lit .nilFunc⟩ := rfl
theorem ty_122 : tys 122 = ⟨.sca, 1, 8, .lit .nilFunc⟩ := rfl
theorem ty_123 : tys 123 = ⟨.str [(0, 17), (1, 17), (2, 17), (3, 9)], 4, 40, .non⟩ := rfl
theorem ty_124 : tys 124 = ⟨.str [(0, 17), (1, 17), (2, 17), (3, 9)], 4, 40, .non⟩ := rfl
theorem ty_125 : tys 125 = ⟨.arr 0 16, 0, 0, .non⟩ := rfl
theorem ty_126 : tys 126 = ⟨.str [(0, 125)], 0, 0, .non⟩ := rfl
theorem ty_127 : tys 127 = ⟨.str [(0, 125)], 0, 0, .non⟩ := rfl
theorem ty_128 : tys 128 = ⟨.num .u32, 1, 4, .lit (.int .u32 0)⟩ := rfl
theorem ty_129 : tys 129 = ⟨.num .u8, 1, 1, .lit (.int .u8 0)⟩ := rfl
theorem ty_130 : tys 130 = ⟨.num .u8, 1, 1, .lit (.int .u8 0)⟩ := rfl
theorem ty_131 : tys 131 = ⟨.sca, 1, 8, .lit .nilFunc⟩ := rfl
theorem ty_132 : tys 132 = ⟨.sca, 1, 8, .non⟩ := rfl
theorem ty_133 : tys 133 = ⟨.num .i32, 1, 4, .lit (.int .i32 0)⟩ := rfl
theorem ty_134 : tys 134 = ⟨.num .i32, 1, 4, .lit (.int .i32 0)⟩ := rfl
theorem ty_135 : tys 135 = ⟨.str [(0, 12), (1, 12), (2, 128), (3, 129), (4, 5), (5, 5), (6, 130), (7, 131), (8, 132), (9, 133), (10, 134)], 11, 48, .non⟩ := rfl
theorem ty_136 : tys 136 = ⟨.str [(0, 12), (1, 12), (2, 128), (3, 129), (4, 5), (5, 5), (6, 130), (7, 131), (8, 132), (9, 133), (10, 134)], 11, 48, .non⟩ := rfl
theorem tyok_1 : TyOK Try.prog 1 (tys 1) := tyOK_mk ⟨_, Try.underlying1, rfl⟩ (.inl (by kernel_rfl))
theorem tyok_2 : TyOK Try.prog 2 (tys 2) := tyOK_mk Try.underlying2 (.inl (by kernel_rfl))
theorem tyok_3 : TyOK Try.prog 3 (tys 3) := tyOK_mk Try.underlying3 (.inl (by kernel_rfl))
theorem tyok_4 : TyOK Try.prog 4 (tys 4) := tyOK_mk Try.underlying4 (.inl (by kernel_rfl))
theorem tyok_5 : TyOK Try.prog 5 (tys 5) := tyOK_mk Try.underlying5 (.inl (by kernel_rfl))
theorem tyok_6 : TyOK Try.prog 6 (tys 6) := tyOK_mk Try.underlying6 (.inl (by kernel_rfl))
theorem tyok_7 : TyOK Try.prog 7 (tys 7) := tyOK_mk ⟨_, Try.underlying7, rfl⟩ (.inl (by kernel_rfl))
theorem tyok_8 : TyOK Try.prog 8 (tys 8) := tyOK_mk ⟨_, Try.underlying8, rfl⟩ (.inl (by kernel_rfl))
theorem tyok_12 : TyOK Try.prog 12 (tys 12) := tyOK_mk Try.underlying12 (.inl (by kernel_rfl))
theorem tyok_13 : TyOK Try.prog 13 (tys 13) := tyOK_mk ⟨_, Try.underlying13, rfl⟩ (.inr ⟨rfl, by kernel_rfl⟩)
theorem tyok_14 : TyOK Try.prog 14 (tys 14) := tyOK_mk ⟨_, Try.underlying14, rfl⟩ (.inr ⟨rfl, by kernel_rfl⟩)
theorem tyok_15 : TyOK Try.prog 15 (tys 15) := tyOK_mk ⟨_, Try.underlying15, rfl⟩ (.inr ⟨rfl, by kernel_rfl⟩)
theorem tyok_16 : TyOK Try.prog 16 (tys 16) := tyOK_mk ⟨_, Try.underlying16, rfl⟩ (.inr ⟨rfl, by kernel_rfl⟩)
theorem tyok_17 : TyOK Try.prog 17 (tys 17) := tyOK_mk ⟨_, Try.underlying17, rfl⟩ (.inr ⟨rfl, by kernel_rfl⟩)
theorem tyok_18 : TyOK Try.prog 18 (tys 18) := tyOK_mk ⟨_, Try.underlying18, rfl⟩ (.inl (by kernel_rfl))
theorem tyok_19 : TyOK Try.prog 19 (tys 19) := tyOK_mk ⟨_, Try.underlying19, rfl⟩ (.inl (by kernel_rfl))
theorem tyok_21 : TyOK Try.prog 21 (tys 21) := tyOK_mk Try.underlying21 (.inl (by kernel_rfl))
theorem tyok_22 : TyOK Try.prog 22 (tys 22) := tyOK_mk Try.underlying22 (.inl (by kernel_rfl))
theorem tyok_23 : TyOK Try.prog 23 (tys 23) := tyOK_mk ⟨_, Try.underlying23, rfl⟩ (.inl (by kernel_rfl))
theorem tyok_24 : TyOK Try.prog 24 (tys 24) := tyOK_mk Try.underlying24 (.inl (by kernel_rfl))
theorem tyok_25 : TyOK Try.prog 25 (tys 25) := tyOK_mk Try.underlying25 (.inl (by kernel_rfl))
theorem tyok_26 : TyOK Try.prog 26 (tys 26) := tyOK_mk ⟨_, Try.underlying26, rfl⟩ (.inl (by kernel_rfl))
theorem tyok_27 : TyOK Try.prog 27 (tys 27) := tyOK_mk ⟨_, Try.underlying27, rfl⟩ (.inl (by kernel_rfl))
theorem tyok_28 : TyOK Try.prog 28 (tys 28) := tyOK_mk ⟨_, Try.underlying28, rfl⟩ (.inl (by kernel_rfl))
theorem tyok_29 : TyOK Try.prog 29 (tys 29) := tyOK_mk Try.underlying29 (.inl (by kernel_rfl))
theorem tyok_30 : TyOK Try.prog 30 (tys 30) := tyOK_mk ⟨_, Try.underlying30, rfl⟩ (.inl (by kernel_rfl))
theorem tyok_31 : TyOK Try.prog 31 (tys 31) := tyOK_mk ⟨_, Try.underlying31, rfl⟩ (.inl (by kernel_rfl))
theorem tyok_33 : TyOK Try.prog 33 (tys 33) := tyOK_mk ⟨_, Try.underlying33, rfl⟩ (.inl (by kernel_rfl))
theorem tyok_35 : TyOK Try.prog 35 (tys 35) := tyOK_mk ⟨_, Try.underlying35, rfl⟩ (.inl (by kernel_rfl))
theorem tyok_37 : TyOK Try.prog 37 (tys 37) := tyOK_mk ⟨_, Try.underlying37, rfl⟩ (.inl (by kernel_rfl))
theorem tyok_38 : TyOK Try.prog 38 (tys 38) := tyOK_mk ⟨_, Try.underlying38, rfl⟩ (.inl (by kernel_rfl))
theorem tyok_40 : TyOK Try.prog 40 (tys 40) := tyOK_mk ⟨_, Try.underlying40, rfl⟩ (.inl (by kernel_rfl))
theorem tyok_41 : TyOK Try.prog 41 (tys 41) := tyOK_mk ⟨_, Try.underlying41, rfl⟩ (.inl (by kernel_rfl))
theorem tyok_42 : TyOK Try.prog 42 (tys 42) := tyOK_mk ⟨_, Try.underlying42, rfl⟩ (.inl (by kernel_rfl))
theorem tyok_44 : TyOK Try.prog 44 (tys 44) := tyOK_mk ⟨_, Try.underlying44, rfl⟩ (.inl (by kernel_rfl))
theorem tyok_46 : TyOK Try.prog 46 (tys 46) := tyOK_mk ⟨_, Try.underlying46, rfl⟩ (.inl (by kernel_rfl))
theorem tyok_47 : TyOK Try.prog 47 (tys 47) := tyOK_mk Try.underlying47 (.inl (by kernel_rfl))
theorem tyok_49 : TyOK Try.prog 49 (tys 49) := tyOK_mk ⟨_, Try.underlying49, rfl⟩ (.inl (by kernel_rfl))
theorem tyok_50 : TyOK Try.prog 50 (tys 50) := tyOK_mk ⟨_, Try.underlying50, rfl⟩ (.inl (by kernel_rfl))
theorem tyok_51 : TyOK Try.prog 51 (tys 51) := tyOK_mk ⟨_, Try.underlying51, rfl⟩ (.inl (by kernel_rfl))
theorem tyok_53 : TyOK Try.prog 53 (tys 53) := tyOK_mk ⟨_, Try.underlying53, rfl⟩ (.inl (by kernel_rfl))
theorem tyok_54 : TyOK Try.prog 54 (tys 54) := tyOK_mk Try.underlying54 (.inl (by kernel_rfl))
theorem tyok_56 : TyOK Try.prog 56 (tys 56) := tyOK_mk ⟨_, Try.underlying56, rfl⟩ (.inl (by kernel_rfl))
theorem tyok_57 : TyOK Try.prog 57 (tys 57) := tyOK_mk ⟨_, Try.underlying57, rfl⟩ (.inl (by kernel_rfl))
theorem tyok_58 : TyOK Try.prog 58 (tys 58) := tyOK_mk ⟨_, Try.underlying58, rfl⟩ (.inl (by kernel_rfl))
theorem tyok_60 : TyOK Try.prog 60 (tys 60) := tyOK_mk ⟨_, Try.underlying60, rfl⟩ (.inl (by kernel_rfl))
theorem tyok_62 : TyOK Try.prog 62 (tys 62) := tyOK_mk ⟨_, Try.underlying62, rfl⟩ (.inl (by kernel_rfl))
theorem tyok_63 : TyOK Try.prog 63 (tys 63) := tyOK_mk ⟨_, Try.underlying63, rfl⟩ (.inl (by kernel_rfl))
theorem tyok_65 : TyOK Try.prog 65 (tys 65) := tyOK_mk ⟨_, Try.underlying65, rfl⟩ (.inl (by kernel_rfl))
theorem tyok_66 : TyOK Try.prog 66 (tys 66) := tyOK_mk ⟨_, Try.underlying66, rfl⟩ (.inl (by kernel_rfl))
theorem tyok_67 : TyOK Try.prog 67 (tys 67) := tyOK_mk ⟨_, Try.underlying67, rfl⟩ (.inl (by kernel_rfl))
theorem tyok_68 : TyOK Try.prog 68 (tys 68) := tyOK_mk ⟨_, Try.underlying68, rfl⟩ (.inl (by kernel_rfl))
theorem tyok_69 : TyOK Try.prog 69 (tys 69) := tyOK_mk ⟨_, Try.underlying69, rfl⟩ (.inl (by kernel_rfl))
theorem tyok_70 : TyOK Try.prog 70 (tys 70) := tyOK_mk ⟨_, Try.underlying70, rfl⟩ (.inl (by kernel_rfl))
theorem tyok_71 : TyOK Try.prog 71 (tys 71) := tyOK_mk ⟨_, Try.underlying71, rfl⟩ (.inl (by kernel_rfl))
theorem tyok_72 : TyOK Try.prog 72 (tys 72) := tyOK_mk Try.underlying72 (.inl (by kernel_rfl))
theorem tyok_73 : TyOK Try.prog 73 (tys 73) := tyOK_mk ⟨_, Try.underlying73, rfl⟩ (.inl (by kernel_rfl))
theorem tyok_74 : TyOK Try.prog 74 (tys 74) := tyOK_mk ⟨_, Try.underlying74, rfl⟩ (.inl (by kernel_rfl))
theorem tyok_76 : TyOK Try.prog 76 (tys 76) := tyOK_mk ⟨_, Try.underlying76, rfl⟩ (.inl (by kernel_rfl))
theorem tyok_77 : TyOK Try.prog 77 (tys 77) := tyOK_mk ⟨_, Try.underlying77, rfl⟩ (.inr ⟨rfl, by kernel_rfl⟩)
theorem tyok_78 : TyOK Try.prog 78 (tys 78) := tyOK_mk Try.underlying78 (.inl (by kernel_rfl))
theorem tyok_79 : TyOK Try.prog 79 (tys 79) := tyOK_mk ⟨_, Try.underlying79, rfl⟩ (.inl (by kernel_rfl))
theorem tyok_80 : TyOK Try.prog 80 (tys 80) := tyOK_mk ⟨_, Try.underlying80, rfl⟩ (.inl (by kernel_rfl))
theorem tyok_81 : TyOK Try.prog 81 (tys 81) := tyOK_mk ⟨_, Try.underlying81, rfl⟩ (.inl (by kernel_rfl))
theorem tyok_82 : TyOK Try.prog 82 (tys 82) := tyOK_mk ⟨_, Try.underlying82, rfl⟩ (.inl (by kernel_rfl))
theorem tyok_83 : TyOK Try.prog 83 (tys 83) := tyOK_mk ⟨_, Try.underlying83, rfl⟩ (.inl (by kernel_rfl))
theorem tyok_84 : TyOK Try.prog 84 (tys 84) := tyOK_mk ⟨_, Try.underlying84, rfl⟩ (.inl (by kernel_rfl))
theorem tyok_85 : TyOK Try.prog 85 (tys 85) := tyOK_mk ⟨_, Try.underlying85, rfl⟩ (.inl (by kernel_rfl))
theorem tyok_86 : TyOK Try.prog 86 (tys 86) := tyOK_mk ⟨_, Try.underlying86, rfl⟩ (.inl (by kernel_rfl))
theorem tyok_87 : TyOK Try.prog 87 (tys 87) := tyOK_mk ⟨_, Try.underlying87, rfl⟩ (.inl (by kernel_rfl))
theorem tyok_88 : TyOK Try.prog 88 (tys 88) := tyOK_mk ⟨_, Try.underlying88, rfl⟩ (.inl (by kernel_rfl))
theorem tyok_89 : TyOK Try.prog 89 (tys 89) := tyOK_mk ⟨_, Try.underlying89, rfl⟩ (.inl (by kernel_rfl))
theorem tyok_90 : TyOK Try.prog 90 (tys 90) := tyOK_mk ⟨_, Try.underlying90, rfl⟩ (.inl (by kernel_rfl))
theorem tyok_91 : TyOK Try.prog 91 (tys 91) := tyOK_mk Try.underlying91 (.inl (by kernel_rfl))
theorem tyok_93 : TyOK Try.prog 93 (tys 93) := tyOK_mk ⟨_, Try.underlying93, rfl⟩ (.inl (by kernel_rfl))
theorem tyok_94 : TyOK Try.prog 94 (tys 94) := tyOK_mk ⟨_, Try.underlying94, rfl⟩ (.inl (by kernel_rfl))
theorem tyok_95 : TyOK Try.prog 95 (tys 95) := tyOK_mk ⟨_, Try.underlying95, rfl⟩ (.inl (by kernel_rfl))
theorem tyok_96 : TyOK Try.prog 96 (tys 96) := tyOK_mk ⟨_, Try.underlying96, rfl⟩ (.inl (by kernel_rfl))
theorem tyok_97 : TyOK Try.prog 97 (tys 97) := tyOK_mk ⟨_, Try.underlying97, rfl⟩ (.inl (by kernel_rfl))
theorem tyok_98 : TyOK Try.prog 98 (tys 98) := tyOK_mk ⟨_, Try.underlying98, rfl⟩ (.inl (by kernel_rfl))
theorem tyok_99 : TyOK Try.prog 99 (tys 99) := tyOK_mk ⟨_, Try.underlying99, rfl⟩ (.inl (by kernel_rfl))
theorem tyok_100 : TyOK Try.prog 100 (tys 100) := tyOK_mk ⟨_, Try.underlying100, rfl⟩ (.inl (by kernel_rfl))
theorem tyok_101 : TyOK Try.prog 101 (tys 101) := tyOK_mk ⟨_, Try.underlying101, rfl⟩ (.inl (by kernel_rfl))
theorem tyok_102 : TyOK Try.prog 102 (tys 102) := tyOK_mk ⟨_, Try.underlying102, rfl⟩ (.inl (by kernel_rfl))
theorem tyok_103 : TyOK Try.prog 103 (tys 103) := tyOK_mk ⟨_, Try.underlying103, rfl⟩ (.inl (by kernel_rfl))
theorem tyok_104 : TyOK Try.prog 104 (tys 104) := tyOK_mk ⟨_, Try.underlying104, rfl⟩ (.inl (by kernel_rfl))
theorem tyok_106 : TyOK Try.prog 106 (tys 106) := tyOK_mk ⟨_, Try.underlying106, rfl⟩ (.inl (by kernel_rfl))
theorem tyok_107 : TyOK Try.prog 107 (tys 107) := tyOK_mk ⟨_, Try.underlying107, rfl⟩ (.inl (by kernel_rfl))
theorem tyok_108 : TyOK Try.prog 108 (tys 108) := tyOK_mk ⟨_, Try.underlying108, rfl⟩ (.inl (by kernel_rfl))
theorem tyok_109 : TyOK Try.prog 109 (tys 109) := tyOK_mk ⟨_, Try.underlying109, rfl⟩ (.inl (by kernel_rfl))
theorem tyok_110 : TyOK Try.prog 110 (tys 110) := tyOK_mk Try.underlying110 (.inl (by kernel_rfl))
theorem tyok_111 : TyOK Try.prog 111 (tys 111) := tyOK_mk ⟨_, Try.underlying111, rfl⟩ (.inl (by kernel_rfl))
theorem tyok_113 : TyOK Try.prog 113 (tys 113) := tyOK_mk ⟨_, Try.underlying113, rfl⟩ (.inl (by kernel_rfl))
theorem tyok_114 : TyOK Try.prog 114 (tys 114) := tyOK_mk ⟨_, Try.underlying114, rfl⟩ (.inl (by kernel_rfl))
theorem tyok_115 : TyOK Try.prog 115 (tys 115) := tyOK_mk ⟨_, Try.underlying115, rfl⟩ (.inl (by kernel_rfl))
theorem tyok_116 : TyOK Try.prog 116 (tys 116) := tyOK_mk Try.underlying116 (.inl (by kernel_rfl))
theorem tyok_117 : TyOK Try.prog 117 (tys 117) := tyOK_mk ⟨_, Try.underlying117, rfl⟩ (.inl (by kernel_rfl))
theorem tyok_118 : TyOK Try.prog 118 (tys 118) := tyOK_mk ⟨_, Try.underlying118, rfl⟩ (.inl (by kernel_rfl))
theorem tyok_119 : TyOK Try.prog 119 (tys 119) := tyOK_mk Try.underlying119 (.inl (by kernel_rfl))
theorem tyok_120 : TyOK Try.prog 120 (tys 120) := tyOK_mk ⟨_, Try.underlying120, rfl⟩ (.inl (by kernel_rfl))
theorem tyok_121 : TyOK Try.prog 121 (tys 121) := tyOK_mk ⟨_, Try.underlying121, rfl⟩ (.inl (by kernel_rfl))
theorem tyok_122 : TyOK Try.prog 122 (tys 122) := tyOK_mk ⟨_, Try.underlying122, rfl⟩ (.inl (by kernel_rfl))
theorem tyok_123 : TyOK Try.prog 123 (tys 123) := tyOK_mk ⟨_, Try.underlying123, rfl⟩ (.inr ⟨rfl, by kernel_rfl⟩)
theorem tyok_124 : TyOK Try.prog 124 (tys 124) := tyOK_mk ⟨_, Try.underlying124, rfl⟩ (.inr ⟨rfl, by kernel_rfl⟩)
theorem tyok_125 : TyOK Try.prog 125 (tys 125) := tyOK_mk Try.underlying125 (.inr ⟨rfl, by kernel_rfl⟩)
theorem tyok_126 : TyOK Try.prog 126 (tys 126) := tyOK_mk ⟨_, Try.underlying126, rfl⟩ (.inr ⟨rfl, by kernel_rfl⟩)
theorem tyok_127 : TyOK Try.prog 127 (tys 127) := tyOK_mk ⟨_, Try.underlying127, rfl⟩ (.inr ⟨rfl, by kernel_rfl⟩)
theorem tyok_128 : TyOK Try.prog 128 (tys 128) := tyOK_mk Try.underlying128 (.inl (by kernel_rfl))
theorem tyok_129 : TyOK Try.prog 129 (tys 129) := tyOK_mk Try.underlying129 (.inl (by kernel_rfl))
theorem tyok_130 : TyOK Try.prog 130 (tys 130) := tyOK_mk Try.underlying130 (.inl (by kernel_rfl))
theorem tyok_131 : TyOK Try.prog 131 (tys 131) := tyOK_mk ⟨_, Try.underlying131, rfl⟩ (.inl (by kernel_rfl))
theorem tyok_132 : TyOK Try.prog 132 (tys 132) := tyOK_mk ⟨_, Try.underlying132, rfl⟩ (.inr ⟨rfl, by kernel_rfl⟩)
theorem tyok_133 : TyOK Try.prog 133 (tys 133) := tyOK_mk Try.underlying133 (.inl (by kernel_rfl))
theorem tyok_134 : TyOK Try.prog 134 (tys 134) := tyOK_mk Try.underlying134 (.inl (by kernel_rfl))
theorem tyok_135 : TyOK Try.prog 135 (tys 135) := tyOK_mk ⟨_, Try.underlying135, rfl⟩ (.inr ⟨rfl, by kernel_rfl⟩)
theorem tyok_136 : TyOK Try.prog 136 (tys 136) := tyOK_mk ⟨_, Try.underlying136, rfl⟩ (.inr ⟨rfl, by kernel_rfl⟩)
theorem tyok_other (t : Nat) (h : (tys t).k = .other) : TyOK Try.prog t (tys t) := ⟨by rw [h]; trivial, fun h' => absurd h h'⟩
theorem TYB : type_of% (
  And.intro @ty_1 <|
  And.intro @ty_2 <|
  And.intro @ty_3 <|
  And.intro @ty_4 <|
  And.intro @ty_5 <|
  And.intro @ty_6 <|
  And.intro @ty_7 <|
  And.intro @ty_8 <|
  And.intro @ty_12 <|
  And.intro @ty_13 <|
  And.intro @ty_14 <|
  And.intro @ty_15 <|
  And.intro @ty_16 <|
  And.intro @ty_17 <|
  And.intro @ty_18 <|
  And.intro @ty_19 <|
  And.intro @ty_21 <|
  And.intro @ty_22 <|
  And.intro @ty_23 <|
  And.intro @ty_24 <|
  And.intro @ty_25 <|
  And.intro @ty_26 <|
  And.intro @ty_27 <|
  And.intro @ty_28 <|
  And.intro @ty_29 <|
  And.intro @ty_30 <|
  And.intro @ty_31 <|
  And.intro @ty_33 <|
  And.intro @ty_35 <|
  And.intro @ty_37 <|
  And.intro @ty_38 <|
  And.intro @ty_40 <|
  And.intro @ty_41 <|
  And.intro @ty_42 <|
  And.intro @ty_44 <|
  And.intro @ty_46 <|
  And.intro @ty_47 <|
  And.intro @ty_49 <|
  And.intro @ty_50 <|
  And.intro @ty_51 <|
  And.intro @ty_53 <|
  And.intro @ty_54 <|
  And.intro @ty_56 <|
  And.intro @ty_57 <|
  And.intro @ty_58 <|
  And.intro @ty_60 <|
  And.intro @ty_62 <|
  And.intro @ty_63 <|
  And.intro @ty_65 <|
  And.intro @ty_66 <|
  And.intro @ty_67 <|
  And.intro @ty_68 <|
  And.intro @ty_69 <|
  And.intro @ty_70 <|
  And.intro @ty_71 <|
  And.intro @ty_72 <|
  And.intro @ty_73 <|
  And.intro @ty_74 <|
  And.intro @ty_76 <|
  And.intro @ty_77 <|
  And.intro @ty_78 <|
  And.intro @ty_79 <|
  And.intro @ty_80 <|
  And.intro @ty_81 <|
  And.intro @ty_82 <|
  And.intro @ty_83 <|
  And.intro @ty_84 <|
  And.intro @ty_85 <|
  And.intro @ty_86 <|
  And.intro @ty_87 <|
  And.intro @ty_88 <|
  And.intro @ty_89 <|
  And.intro @ty_90 <|
  And.intro @ty_91 <|
  And.intro @ty_93 <|
  And.intro @ty_94 <|
  And.intro @ty_95 <|
  And.intro @ty_96 <|
  And.intro @ty_97 <|
  And.intro @ty_98 <|
  And.intro @ty_99 <|
  And.intro @ty_100 <|
  And.intro @ty_101 <|
  And.intro @ty_102 <|
  And.intro @ty_103 <|
  And.intro @ty_104 <|
  And.intro @ty_106 <|
  And.intro @ty_107 <|
  And.intro @ty_108 <|
  And.intro @ty_109 <|
  And.intro @ty_110 <|
  And.intro @ty_111 <|
  And.intro @ty_113 <|
  And.intro @ty_114 <|
  And.intro @ty_115 <|
  And.intro @ty_116 <|
  And.intro @ty_117 <|
  And.intro @ty_118 <|
  And.intro @ty_119 <|
  And.intro @ty_120 <|
  And.intro @ty_121 <|
  And.intro @ty_122 <|
  And.intro @ty_123 <|
  And.intro @ty_124 <|
  And.intro @ty_125 <|
  And.intro @ty_126 <|
  And.intro @ty_127 <|
  And.intro @ty_128 <|
  And.intro @ty_129 <|
  And.intro @ty_130 <|
  And.intro @ty_131 <|
  And.intro @ty_132 <|
  And.intro @ty_133 <|
  And.intro @ty_134 <|
  And.intro @ty_135 <| @ty_136) :=
  And.intro @ty_1 <|
  And.intro @ty_2 <|
  And.intro @ty_3 <|
  And.intro @ty_4 <|
  And.intro @ty_5 <|
  And.intro @ty_6 <|
  And.intro @ty_7 <|
  And.intro @ty_8 <|
  And.intro @ty_12 <|
  And.intro @ty_13 <|
  And.intro @ty_14 <|
  And.intro @ty_15 <|
  And.intro @ty_16 <|
  And.intro @ty_17 <|
  And.intro @ty_18 <|
  And.intro @ty_19 <|
  And.intro @ty_21 <|
  And.intro @ty_22 <|
  And.intro @ty_23 <|
  And.intro @ty_24 <|
  And.intro @ty_25 <|
  And.intro @ty_26 <|
  And.intro @ty_27 <|
  And.intro @ty_28 <|
  And.intro @ty_29 <|
  And.intro @ty_30 <|
  And.intro @ty_31 <|
  And.intro @ty_33 <|
  And.intro @ty_35 <|
  And.intro @ty_37 <|
  And.intro @ty_38 <|
  And.intro @ty_40 <|
  And.intro @ty_41 <|
  And.intro @ty_42 <|
  And.intro @ty_44 <|
  And.intro @ty_46 <|
  And.intro @ty_47 <|
  And.intro @ty_49 <|
  And.intro @ty_50 <|
  And.intro @ty_51 <|
  And.intro @ty_53 <|
  And.intro @ty_54 <|
  And.intro @ty_56 <|
  And.intro @ty_57 <|
  And.intro @ty_58 <|
  And.intro @ty_60 <|
  And.intro @ty_62 <|
  And.intro @ty_63 <|
  And.intro @ty_65 <|
  And.intro @ty_66 <|
  And.intro @ty_67 <|
  And.intro @ty_68 <|
  And.intro @ty_69 <|
  And.intro @ty_70 <|
  And.intro @ty_71 <|
  And.intro @ty_72 <|
  And.intro @ty_73 <|
  And.intro @ty_74 <|
  And.intro @ty_76 <|
  And.intro @ty_77 <|
  And.intro @ty_78 <|
  And.intro @ty_79 <|
  And.intro @ty_80 <|
  And.intro @ty_81 <|
  And.intro @ty_82 <|
  And.intro @ty_83 <|
  And.intro @ty_84 <|
  And.intro @ty_85 <|
  And.intro @ty_86 <|
  And.intro @ty_87 <|
  And.intro @ty_88 <|
  And.intro @ty_89 <|
  And.intro @ty_90 <|
  And.intro @ty_91 <|
  And.intro @ty_93 <|
  And.intro @ty_94 <|
  And.intro @ty_95 <|
  And.intro @ty_96 <|
  And.intro @ty_97 <|
  And.intro @ty_98 <|
  And.intro @ty_99 <|
  And.intro @ty_100 <|
  And.intro @ty_101 <|
  And.intro @ty_102 <|
  And.intro @ty_103 <|
  And.intro @ty_104 <|
  And.intro @ty_106 <|
  And.intro @ty_107 <|
  And.intro @ty_108 <|
  And.intro @ty_109 <|
  And.intro @ty_110 <|
  And.intro @ty_111 <|
  And.intro @ty_113 <|
  And.intro @ty_114 <|
  And.intro @ty_115 <|
  And.intro @ty_116 <|
  And.intro @ty_117 <|
  And.intro @ty_118 <|
  And.intro @ty_119 <|
  And.intro @ty_120 <|
  And.intro @ty_121 <|
  And.intro @ty_122 <|
  And.intro @ty_123 <|
  And.intro @ty_124 <|
  And.intro @ty_125 <|
  And.intro @ty_126 <|
  And.intro @ty_127 <|
  And.intro @ty_128 <|
  And.intro @ty_129 <|
  And.intro @ty_130 <|
  And.intro @ty_131 <|
  And.intro @ty_132 <|
  And.intro @ty_133 <|
  And.intro @ty_134 <|
  And.intro @ty_135 <| @ty_136
theorem tys_ok : TysOK Try.prog tys := by
  intro t
  match t with
  | 1 => exact tyok_1
  | 2 => exact tyok_2
  | 3 => exact tyok_3
  | 4 => exact tyok_4
  | 5 => exact tyok_5
  | 6 => exact tyok_6
  | 7 => exact tyok_7
  | 8 => exact tyok_8
  | 12 => exact tyok_12
  | 13 => exact tyok_13
  | 14 => exact tyok_14
  | 15 => exact tyok_15
  | 16 => exact tyok_16
  | 17 => exact tyok_17
  | 18 => exact tyok_18
  | 19 => exact tyok_19
  | 21 => exact tyok_21
  | 22 => exact tyok_22
  | 23 => exact tyok_23
  | 24 => exact tyok_24
  | 25 => exact tyok_25
  | 26 => exact tyok_26
  | 27 => exact tyok_27
  | 28 => exact tyok_28
  | 29 => exact tyok_29
  | 30 => exact tyok_30
  | 31 => exact tyok_31
  | 33 => exact tyok_33
  | 35 => exact tyok_35
  | 37 => exact tyok_37
  | 38 => exact tyok_38
  | 40 => exact tyok_40
  | 41 => exact tyok_41
  | 42 => exact tyok_42
  | 44 => exact tyok_44
  | 46 => exact tyok_46
  | 47 => exact tyok_47
  | 49 => exact tyok_49
  | 50 => exact tyok_50
  | 51 => exact tyok_51
  | 53 => exact tyok_53
  | 54 => exact tyok_54
  | 56 => exact tyok_56
  | 57 => exact tyok_57
  | 58 => exact tyok_58
  | 60 => exact tyok_60
  | 62 => exact tyok_62
  | 63 => exact tyok_63
  | 65 => exact tyok_65
  | 66 => exact tyok_66
  | 67 => exact tyok_67
  | 68 => exact tyok_68
  | 69 => exact tyok_69
  | 70 => exact tyok_70
  | 71 => exact tyok_71
  | 72 => exact tyok_72
  | 73 => exact tyok_73
  | 74 => exact tyok_74
  | 76 => exact tyok_76
  | 77 => exact tyok_77
  | 78 => exact tyok_78
  | 79 => exact tyok_79
  | 80 => exact tyok_80
  | 81 => exact tyok_81
  | 82 => exact tyok_82
  | 83 => exact tyok_83
  | 84 => exact tyok_84
  | 85 => exact tyok_85
  | 86 => exact tyok_86
  | 87 => exact tyok_87
  | 88 => exact tyok_88
  | 89 => exact tyok_89
  | 90 => exact tyok_90
  | 91 => exact tyok_91
  | 93 => exact tyok_93
  | 94 => exact tyok_94
  | 95 => exact tyok_95
  | 96 => exact tyok_96
  | 97 => exact tyok_97
  | 98 => exact tyok_98
  | 99 => exact tyok_99
  | 100 => exact tyok_100
  | 101 => exact tyok_101
  | 102 => exact tyok_102
  | 103 => exact tyok_103
  | 104 => exact tyok_104
  | 106 => exact tyok_106
  | 107 => exact tyok_107
  | 108 => exact tyok_108
  | 109 => exact tyok_109
  | 110 => exact tyok_110
  | 111 => exact tyok_111
  | 113 => exact tyok_113
  | 114 => exact tyok_114
  | 115 => exact tyok_115
  | 116 => exact tyok_116
  | 117 => exact tyok_117
  | 118 => exact tyok_118
  | 119 => exact tyok_119
  | 120 => exact tyok_120
  | 121 => exact tyok_121
  | 122 => exact tyok_122
  | 123 => exact tyok_123
  | 124 => exact tyok_124
  | 125 => exact tyok_125
  | 126 => exact tyok_126
  | 127 => exact tyok_127
  | 128 => exact tyok_128
  | 129 => exact tyok_129
  | 130 => exact tyok_130
  | 131 => exact tyok_131
  | 132 => exact tyok_132
  | 133 => exact tyok_133
  | 134 => exact tyok_134
  | 135 => exact tyok_135
  | 136 => exact tyok_136
  | 0 => exact tyok_other _ rfl
  | 9 => exact tyok_other _ rfl
  | 10 => exact tyok_other _ rfl
  | 11 => exact tyok_other _ rfl
  | 20 => exact tyok_other _ rfl
  | 32 => exact tyok_other _ rfl
  | 34 => exact tyok_other _ rfl
  | 36 => exact tyok_other _ rfl
  | 39 => exact tyok_other _ rfl
  | 43 => exact tyok_other _ rfl
  | 45 => exact tyok_other _ rfl
  | 48 => exact tyok_other _ rfl
  | 52 => exact tyok_other _ rfl
  | 55 => exact tyok_other _ rfl
  | 59 => exact tyok_other _ rfl
  | 61 => exact tyok_other _ rfl
  | 64 => exact tyok_other _ rfl
  | 75 => exact tyok_other _ rfl
  | 92 => exact tyok_other _ rfl
  | 105 => exact tyok_other _ rfl
  | 112 => exact tyok_other _ rfl
  | n + 137 => exact tyok_other _ (by simp [tys])
theorem mixed : Try.prog.follows .mixedOrders = true := by kernel_rfl

end Go.Proofs.Ytckcojgfgcjamaa
namespace Go.Proofs.Ytckcojgfgcjamaa
open Go Go.RowKit

theorem fn_5 : FnOK Try.prog 5 Try.f5 (Try.f5.body.getD .skip) [] [] := ⟨Try.func5, rfl, by kernel_rfl, by kernel_rfl⟩
theorem fn_7 : FnOK Try.prog 7 Try.f7 (Try.f7.body.getD .skip) [] [] := ⟨Try.func7, rfl, by kernel_rfl, by kernel_rfl⟩
theorem fn_8 : FnOK Try.prog 8 Try.f8 (Try.f8.body.getD .skip) [] [] := ⟨Try.func8, rfl, by kernel_rfl, by kernel_rfl⟩
theorem fn_9 : FnOK Try.prog 9 Try.f9 (Try.f9.body.getD .skip) [] [] := ⟨Try.func9, rfl, by kernel_rfl, by kernel_rfl⟩
theorem fn_10 : FnOK Try.prog 10 Try.f10 (Try.f10.body.getD .skip) [] [] := ⟨Try.func10, rfl, by kernel_rfl, by kernel_rfl⟩
theorem fn_13 : FnOK Try.prog 13 Try.f13 (Try.f13.body.getD .skip) [] [] := ⟨Try.func13, rfl, by kernel_rfl, by kernel_rfl⟩
theorem fn_14 : FnOK Try.prog 14 Try.f14 (Try.f14.body.getD .skip) [] [] := ⟨Try.func14, rfl, by kernel_rfl, by kernel_rfl⟩
theorem fn_15 : FnOK Try.prog 15 Try.f15 (Try.f15.body.getD .skip) [] [] := ⟨Try.func15, rfl, by kernel_rfl, by kernel_rfl⟩
theorem fn_16 : FnOK Try.prog 16 Try.f16 (Try.f16.body.getD .skip) [] [] := ⟨Try.func16, rfl, by kernel_rfl, by kernel_rfl⟩
theorem fn_17 : FnOK Try.prog 17 Try.f17 (Try.f17.body.getD .skip) [] [] := ⟨Try.func17, rfl, by kernel_rfl, by kernel_rfl⟩
theorem fn_18 : FnOK Try.prog 18 Try.f18 (Try.f18.body.getD .skip) [] [] := ⟨Try.func18, rfl, by kernel_rfl, by kernel_rfl⟩
theorem fn_19 : FnOK Try.prog 19 Try.f19 (Try.f19.body.getD .skip) [] [] := ⟨Try.func19, rfl, by kernel_rfl, by kernel_rfl⟩
theorem fn_20 : FnOK Try.prog 20 Try.f20 (Try.f20.body.getD .skip) [] [] := ⟨Try.func20, rfl, by kernel_rfl, by kernel_rfl⟩
theorem fn_22 : FnOK Try.prog 22 Try.f22 (Try.f22.body.getD .skip) [] [] := ⟨Try.func22, rfl, by kernel_rfl, by kernel_rfl⟩
theorem fn_23 : FnOK Try.prog 23 Try.f23 (Try.f23.body.getD .skip) [] [] := ⟨Try.func23, rfl, by kernel_rfl, by kernel_rfl⟩
theorem fn_25 : FnOK Try.prog 25 Try.f25 (Try.f25.body.getD .skip) [] [] := ⟨Try.func25, rfl, by kernel_rfl, by kernel_rfl⟩
theorem fn_26 : FnOK Try.prog 26 Try.f26 (Try.f26.body.getD .skip) [] [] := ⟨Try.func26, rfl, by kernel_rfl, by kernel_rfl⟩
theorem fn_27 : FnOK Try.prog 27 Try.f27 (Try.f27.body.getD .skip) [] [] := ⟨Try.func27, rfl, by kernel_rfl, by kernel_rfl⟩
theorem fn_28 : FnOK Try.prog 28 Try.f28 (Try.f28.body.getD .skip) [] [] := ⟨Try.func28, rfl, by kernel_rfl, by kernel_rfl⟩
theorem fn_29 : FnOK Try.prog 29 Try.f29 (Try.f29.body.getD .skip) [] [] := ⟨Try.func29, rfl, by kernel_rfl, by kernel_rfl⟩
theorem fn_49 : FnOK Try.prog 49 Try.f49 (Try.f49.body.getD .skip) [] [] := ⟨Try.func49, rfl, by kernel_rfl, by kernel_rfl⟩
theorem fn_50 : FnOK Try.prog 50 Try.f50 (Try.f50.body.getD .skip) [] [] := ⟨Try.func50, rfl, by kernel_rfl, by kernel_rfl⟩
theorem fn_51 : FnOK Try.prog 51 Try.f51 (Try.f51.body.getD .skip) [] [] := ⟨Try.func51, rfl, by kernel_rfl, by kernel_rfl⟩
theorem fn_52 : FnOK Try.prog 52 Try.f52 (Try.f52.body.getD .skip) [] [] := ⟨Try.func52, rfl, by kernel_rfl, by kernel_rfl⟩
theorem fn_53 : FnOK Try.prog 53 Try.f53 (Try.f53.body.getD .skip) [] [] := ⟨Try.func53, rfl, by kernel_rfl, by kernel_rfl⟩
theorem fn_54 : FnOK Try.prog 54 Try.f54 (Try.f54.body.getD .skip) [] [] := ⟨Try.func54, rfl, by kernel_rfl, by kernel_rfl⟩
theorem fn_55 : FnOK Try.prog 55 Try.f55 (Try.f55.body.getD .skip) [] [] := ⟨Try.func55, rfl, by kernel_rfl, by kernel_rfl⟩
theorem fn_56 : FnOK Try.prog 56 Try.f56 (Try.f56.body.getD .skip) [] [] := ⟨Try.func56, rfl, by kernel_rfl, by kernel_rfl⟩
theorem fn_57 : FnOK Try.prog 57 Try.f57 (Try.f57.body.getD .skip) [] [] := ⟨Try.func57, rfl, by kernel_rfl, by kernel_rfl⟩
theorem fn_58 : FnOK Try.prog 58 Try.f58 (Try.f58.body.getD .skip) [] [] := ⟨Try.func58, rfl, by kernel_rfl, by kernel_rfl⟩
theorem fn_63 : FnOK Try.prog 63 Try.f63 (Try.f63.body.getD .skip) [] [] := ⟨Try.func63, rfl, by kernel_rfl, by kernel_rfl⟩
theorem fn_64 : FnOK Try.prog 64 Try.f64 (Try.f64.body.getD .skip) [] [] := ⟨Try.func64, rfl, by kernel_rfl, by kernel_rfl⟩
theorem fn_65 : FnOK Try.prog 65 Try.f65 (Try.f65.body.getD .skip) [] [] := ⟨Try.func65, rfl, by kernel_rfl, by kernel_rfl⟩
theorem fn_66 : FnOK Try.prog 66 Try.f66 (Try.f66.body.getD .skip) [] [] := ⟨Try.func66, rfl, by kernel_rfl, by kernel_rfl⟩
theorem fn_67 : FnOK Try.prog 67 Try.f67 (Try.f67.body.getD .skip) [] [] := ⟨Try.func67, rfl, by kernel_rfl, by kernel_rfl⟩
theorem fn_68 : FnOK Try.prog 68 Try.f68 (Try.f68.body.getD .skip) [] [] := ⟨Try.func68, rfl, by kernel_rfl, by kernel_rfl⟩
theorem fn_71 : FnOK Try.prog 71 Try.f71 (Try.f71.body.getD .skip) [] [] := ⟨Try.func71, rfl, by kernel_rfl, by kernel_rfl⟩
theorem fn_72 : FnOK Try.prog 72 Try.f72 (Try.f72.body.getD .skip) [] [] := ⟨Try.func72, rfl, by kernel_rfl, by kernel_rfl⟩
theorem fn_73 : FnOK Try.prog 73 Try.f73 (Try.f73.body.getD .skip) [] [] := ⟨Try.func73, rfl, by kernel_rfl, by kernel_rfl⟩
theorem fn_74 : FnOK Try.prog 74 Try.f74 (Try.f74.body.getD .skip) [] [] := ⟨Try.func74, rfl, by kernel_rfl, by kernel_rfl⟩
theorem fn_75 : FnOK Try.prog 75 Try.f75 (Try.f75.body.getD .skip) [] [] := ⟨Try.func75, rfl, by kernel_rfl, by kernel_rfl⟩
theorem fn_76 : FnOK Try.prog 76 Try.f76 (Try.f76.body.getD .skip) [] [(2, .holes [])] := ⟨Try.func76, rfl, by kernel_rfl, by kernel_rfl⟩
theorem fn_77 : FnOK Try.prog 77 Try.f77 (Try.f77.body.getD .skip) [] [] := ⟨Try.func77, rfl, by kernel_rfl, by kernel_rfl⟩
theorem fn_78 : FnOK Try.prog 78 Try.f78 (Try.f78.body.getD .skip) [] [] := ⟨Try.func78, rfl, by kernel_rfl, by kernel_rfl⟩
theorem fn_79 : FnOK Try.prog 79 Try.f79 (Try.f79.body.getD .skip) [] [] := ⟨Try.func79, rfl, by kernel_rfl, by kernel_rfl⟩
theorem fn_80 : FnOK Try.prog 80 Try.f80 (Try.f80.body.getD .skip) [] [] := ⟨Try.func80, rfl, by kernel_rfl, by kernel_rfl⟩
theorem fn_87 : FnOK Try.prog 87 Try.f87 (Try.f87.body.getD .skip) [] [] := ⟨Try.func87, rfl, by kernel_rfl, by kernel_rfl⟩
theorem fn_92 : FnOK Try.prog 92 Try.f92 (Try.f92.body.getD .skip) [] [] := ⟨Try.func92, rfl, by kernel_rfl, by kernel_rfl⟩
theorem fn_101 : FnOK Try.prog 101 Try.f101 (Try.f101.body.getD .skip) [] [] := ⟨Try.func101, rfl, by kernel_rfl, by kernel_rfl⟩
theorem fn_102 : FnOK Try.prog 102 Try.f102 (Try.f102.body.getD .skip) [] [] := ⟨Try.func102, rfl, by kernel_rfl, by kernel_rfl⟩
theorem fn_103 : FnOK Try.prog 103 Try.f103 (Try.f103.body.getD .skip) [] [] := ⟨Try.func103, rfl, by kernel_rfl, by kernel_rfl⟩
theorem fn_104 : FnOK Try.prog 104 Try.f104 (Try.f104.body.getD .skip) [] [] := ⟨Try.func104, rfl, by kernel_rfl, by kernel_rfl⟩
theorem fn_105 : FnOK Try.prog 105 Try.f105 (Try.f105.body.getD .skip) [] [] := ⟨Try.func105, rfl, by kernel_rfl, by kernel_rfl⟩
theorem fn_106 : FnOK Try.prog 106 Try.f106 (Try.f106.body.getD .skip) [] [] := ⟨Try.func106, rfl, by kernel_rfl, by kernel_rfl⟩
theorem fn_108 : FnOK Try.prog 108 Try.f108 (Try.f108.body.getD .skip) [] [] := ⟨Try.func108, rfl, by kernel_rfl, by kernel_rfl⟩
theorem fn_109 : FnOK Try.prog 109 Try.f109 (Try.f109.body.getD .skip) [] [] := ⟨Try.func109, rfl, by kernel_rfl, by kernel_rfl⟩
theorem fn_110 : FnOK Try.prog 110 Try.f110 (Try.f110.body.getD .skip) [] [] := ⟨Try.func110, rfl, by kernel_rfl, by kernel_rfl⟩
theorem fn_111 : FnOK Try.prog 111 Try.f111 (Try.f111.body.getD .skip) [] [] := ⟨Try.func111, rfl, by kernel_rfl, by kernel_rfl⟩
theorem fn_112 : FnOK Try.prog 112 Try.f112 (Try.f112.body.getD .skip) [] [] := ⟨Try.func112, rfl, by kernel_rfl, by kernel_rfl⟩
theorem fn_114 : FnOK Try.prog 114 Try.f114 (Try.f114.body.getD .skip) [] [] := ⟨Try.func114, rfl, by kernel_rfl, by kernel_rfl⟩
theorem fn_119 : FnOK Try.prog 119 Try.f119 (Try.f119.body.getD .skip) [] [] := ⟨Try.func119, rfl, by kernel_rfl, by kernel_rfl⟩
theorem fn_120 : FnOK Try.prog 120 Try.f120 (Try.f120.body.getD .skip) [] [] := ⟨Try.func120, rfl, by kernel_rfl, by kernel_rfl⟩
theorem fn_121 : FnOK Try.prog 121 Try.f121 (Try.f121.body.getD .skip) [] [] := ⟨Try.func121, rfl, by kernel_rfl, by kernel_rfl⟩
theorem fn_122 : FnOK Try.prog 122 Try.f122 (Try.f122.body.getD .skip) [] [] := ⟨Try.func122, rfl, by kernel_rfl, by kernel_rfl⟩
theorem fn_124 : FnOK Try.prog 124 Try.f124 (Try.f124.body.getD .skip) [] [] := ⟨Try.func124, rfl, by kernel_rfl, by kernel_rfl⟩

end Go.Proofs.Ytckcojgfgcjamaa
set_option maxRecDepth 100000
set_option linter.unusedSimpArgs false
set_option linter.unusedVariables false
namespace Go.Proofs.Ytckcojgfgcjamaa
open Go Go.RowKit
--@tbl within = impl.within
theorem within_ok (n lo hi : Int) : PureH Try.prog 63 [.int n, .int lo, .int hi] [] (.bool (decide (lo ≤ n ∧ n ≤ hi))) := by
  refine pure_of_vc (X := ⟨Try.prog, tys, [], [], true, true, 0, [], []⟩) fn_63 ⟨tys_ok, .nil, .nil, mixed⟩ (n0 := 0) (Nat.le_of_ble_eq_true rfl) (by simp [wfL, SV.wf]) (wfH_spec (by simp [wfH, SObj.wf, wfL, SV.wf])) (Nat.le_refl _) (fun _ => by simp [SV.wf, wfL]) ?_
  simp -implicitDefEqProofs only [Try.f63, Option.getD_some, argS, SB, SV.known, packR, ne_eq, reduceCtorEq, Nat.reduceEqDiff, ↓reduceIte, if_true, if_false, eq_self, Nat.reduceAdd, Nat.reduceMul, Nat.reduceSub, forall_const, oneCellS, litOne, flat1, Kd.isSca, flat, TYB]
  constructor <;> intro h <;> simp [h]
def within_F : List SV → Heap → Option (Prop × SV)
  | [.int n, .int lo, .int hi], _ => some (True, .bool (decide (lo ≤ n ∧ n ≤ hi)))
  | _, _ => none
theorem within_T : ∀ args H p v, within_F args H = some (p, v) → p → PureH Try.prog 63 args H v := by
  intro args H p v h hp
  unfold within_F at h
  split at h
  · cases h; exact (within_ok _ _ _).any _
  · cases h

theorem fill_step (L : List Int) (i n : Nat) (h : i < n) (hL : L.length = n) : (L.take i ++ List.replicate (n - i) 0).set i (L.getD i 0) = L.take (i + 1) ++ List.replicate (n - (i + 1)) 0 := by
  have h1 : List.replicate (n - i) (0 : Int) = 0 :: List.replicate (n - (i + 1)) 0 := by
    rw [← List.replicate_succ]; congr 1; omega
  have hlen : (L.take i).length = i := by simp; omega
  rw [h1, List.take_succ_eq_append_getElem (by omega : i < L.length), List.set_append_right _ _ (by omega), hlen]
  simp only [Nat.sub_self, List.set_cons_zero, List.append_assoc, List.cons_append, List.nil_append, List.getD, List.getElem?_eq_getElem (show i < L.length by omega), Option.getD_some]
--@tbl l1In = spec.l1In
theorem l1In_ok (n lo hi : Int) : PureH Try.prog 65 [.int n, .int lo, .int hi] [] (.bool (decide (lo ≤ n ∧ n ≤ hi))) := by
  refine pure_of_vc (X := ⟨Try.prog, tys, [], [], true, true, 0, [], []⟩) fn_65 ⟨tys_ok, .nil, .nil, mixed⟩ (n0 := 0) (Nat.le_of_ble_eq_true rfl) (by simp [wfL, SV.wf]) (wfH_spec (by simp [wfH, SObj.wf, wfL, SV.wf])) (Nat.le_refl _) (fun _ => by simp [SV.wf, wfL]) ?_
  simp -implicitDefEqProofs only [Try.f65, Option.getD_some, argS, SB, SV.known, packR, ne_eq, reduceCtorEq, Nat.reduceEqDiff, ↓reduceIte, if_true, if_false, eq_self, Nat.reduceAdd, Nat.reduceMul, Nat.reduceSub, forall_const, oneCellS, litOne, flat1, Kd.isSca, flat, TYB]
  constructor <;> intro h <;> simp [h]
def l1In_F : List SV → Heap → Option (Prop × SV)
  | [.int n, .int lo, .int hi], _ => some (True, .bool (decide (lo ≤ n ∧ n ≤ hi)))
  | _, _ => none
theorem l1In_T : ∀ args H p v, l1In_F args H = some (p, v) → p → PureH Try.prog 65 args H v := by
  intro args H p v h hp
  unfold l1In_F at h
  split at h
  · cases h; exact (l1In_ok _ _ _).any _
  · cases h

def idxI (pr : Int → Bool) (l : List Int) : Int := match l.findIdx? pr with
  | some k => k
  | none => -1

theorem idxI_hit {pr : Int → Bool} {l : List Int} {i : Nat} (hi : i < l.length) (hp : pr (l.getD i 0) = true) (hn : ∀ k, k < i → pr (l.getD k 0) = false) : idxI pr l = i := by
  have : l.findIdx? pr = some i := by
    rw [List.findIdx?_eq_some_iff_getElem]
    refine ⟨hi, by simpa [List.getD, List.getElem?_eq_getElem hi] using hp, fun j hj => ?_⟩
    have := hn j hj
    simpa [List.getD, List.getElem?_eq_getElem (show j < l.length by omega)] using this
  simp [idxI, this]
theorem idxI_none {pr : Int → Bool} {l : List Int} (hn : ∀ k, k < l.length → pr (l.getD k 0) = false) : idxI pr l = -1 := by
  have : l.findIdx? pr = none := by
    rw [List.findIdx?_eq_none_iff]
    intro x hx
    obtain ⟨k, hk, rfl⟩ := List.getElem_of_mem hx
    have := hn k hk
    simpa [List.getD, List.getElem?_eq_getElem hk] using this
  simp [idxI, this]
theorem getD_cut (L : List Int) (off len k : Nat) (h : k < len) : ((L.drop off).take len).getD k 0 = L.getD (off + k) 0 := by
  simp [List.getD, List.getElem?_take, h, List.getElem?_drop]

theorem indexFuncI_ok (g : Nat) (caps : List SV) (Hc : Heap) (pr : Int → Bool) (n0 : Nat) (L : List Int) (e off len cap : Nat) (hl : off + len ≤ L.length) (hm : len ≤ 9223372036854775806)
    (hc : ∀ x ∈ (L.drop off).take len, PureH Try.prog g (.int x :: caps) ((0, .ints L e) :: Hc) (.bool (pr x))) (hw : wfL n0 caps) (hwH : hwf n0 ((0, .ints L e) :: Hc)) :
    PureH Try.prog 122 [.slice 0 off len cap, .fn g caps] ((0, .ints L e) :: Hc) (.int (idxI pr ((L.drop off).take len))) := by
  have hE : ((L.drop off).take len).length = len := by simp; omega
  have h00 : 0 < n0 := (hwH 0 _ (by rw [hget_cons, if_pos rfl])).1
  refine pure_of_vc (X := ⟨Try.prog, tys, [(g, fun args H => match args with | .int x :: r => some (r = caps ∧ H = ((0, .ints L e) :: Hc) ∧ x ∈ (L.drop off).take len, .bool (pr x)) | _ => none)], [], true, true, n0, [], []⟩) fn_122
    ⟨tys_ok, .cons (fun args H p v h hp => ?_) .nil, .nil, mixed⟩ (n0 := n0) (Nat.le_of_ble_eq_true rfl) ⟨by have := (hwH 0 _ (by rw [hget_cons, if_pos rfl])).1; simpa [SV.wf] using this, by simpa [SV.wf] using hw, trivial⟩ hwH (Nat.le_refl _) (fun _ => trivial) ?_
  · split at h
    · cases h
      obtain ⟨rfl, rfl, hx⟩ := hp
      exact hc _ hx
    · cases h
  simp -implicitDefEqProofs only [Try.f122, Option.getD_some, argS, SB, SV.known, packR, ne_eq, reduceCtorEq, Nat.reduceEqDiff, ↓reduceIte, if_true, if_false, eq_self, Nat.reduceAdd, Nat.reduceMul, Nat.reduceSub, forall_const, oneCellS, litOne, flat1, Kd.isSca, flat, TYB]
  refine loop_intro (fun i : Nat => [(0, .slice 0 off len cap), (1, .fn g caps), (7, .int len), (8, .int i)]) (fun i => (0, .ints L e) :: Hc) n0 (fun i => i ≤ len ∧ ∀ k, k < i → pr (((L.drop off).take len).getD k 0) = false) (fun i => len - i) ?_ ?_
  · refine ⟨0, ⟨by omega, by simp⟩, Sub.same ?_ ?_ hwH (Nat.le_refl _)⟩
    · simp [subS, subH, wfS, wfH, SV.ren, renL, SObj.ren, SV.wf, SObj.wf, wfL, sget_cons, hget_cons, SV.known, renL_id]
    · simp [subS, subH, wfS, wfH, SV.ren, renL, SObj.ren, SV.wf, SObj.wf, wfL, sget_cons, hget_cons, hw, h00]
  · intro i hi
    obtain ⟨hi1, hi2⟩ := hi
    simp -implicitDefEqProofs only [lk_normal, SB, SV.known, packR, ne_eq, reduceCtorEq, Nat.reduceEqDiff, ↓reduceIte, if_true, if_false, eq_self, Nat.reduceAdd, Nat.reduceMul, Nat.reduceSub, forall_const, oneCellS, litOne, flat1, Kd.isSca, flat, TYB]
    refine ⟨fun h => ?_, fun h => ?_⟩
    · have hlt : i < len := by omega
      have e1 : off + (i : Int).toNat * 1 = off + i := by simp
      have e2 : L.getD (off + i) 0 = ((L.drop off).take len).getD i 0 := (getD_cut L off len i hlt).symm
      simp only [e1, e2]
      refine ⟨by omega, by omega, by omega, ?_, ?_⟩
      · simp only [List.getD, List.getElem?_eq_getElem (show i < ((L.drop off).take len).length by omega), Option.getD_some]
        exact List.getElem_mem _
      · cases hp : pr (((L.drop off).take len).getD i 0) with
        | true =>
          simp -implicitDefEqProofs only [SB, SV.known, packR, ne_eq, reduceCtorEq, Nat.reduceEqDiff, ↓reduceIte, if_true, if_false, eq_self, Nat.reduceAdd, Nat.reduceMul, Nat.reduceSub, forall_const, oneCellS, litOne, flat1, Kd.isSca, flat, TYB]
          rw [idxI_hit (by omega) hp hi2]
        | false =>
          simp -implicitDefEqProofs only [lk_normal, SB, SV.known, packR, ne_eq, reduceCtorEq, Nat.reduceEqDiff, ↓reduceIte, if_true, if_false, eq_self, Nat.reduceAdd, Nat.reduceMul, Nat.reduceSub, forall_const, oneCellS, litOne, flat1, Kd.isSca, flat, TYB]
          refine ⟨by unfold In64; omega, i + 1, ⟨by omega, fun k hk => ?_⟩, by omega, Sub.same ?_ ?_ hwH (Nat.le_refl _)⟩
          · by_cases hki : k = i
            · subst hki; exact hp
            · exact hi2 k (by omega)
          · simp [subS, subH, wfS, wfH, SV.ren, renL, SObj.ren, SV.wf, SObj.wf, wfL, sget_cons, hget_cons, SV.known, renL_id]
          · simp [subS, subH, wfS, wfH, SV.ren, renL, SObj.ren, SV.wf, SObj.wf, wfL, sget_cons, hget_cons, hw, h00]
    · obtain rfl : i = len := by omega
      rw [idxI_none (by rw [hE]; exact hi2)]

theorem hget_nil (k : Nat) : hget [] k = none := rfl
theorem idxI_any (pr : Int → Bool) (l : List Int) : decide (0 ≤ idxI pr l) = l.any pr := by
  unfold idxI
  cases h : l.findIdx? pr with
  | none =>
    have := (List.findIdx?_eq_none_iff).1 h
    have e : l.any pr = false := by rw [List.any_eq_false]; intro x hx; simp [this x hx]
    rw [e]; decide
  | some k =>
    obtain ⟨hk, hp, _⟩ := List.findIdx?_eq_some_iff_getElem.1 h
    have e : l.any pr = true := List.any_eq_true.2 ⟨l[k], List.getElem_mem _, hp⟩
    rw [e]; simp

theorem containsFuncI_ok (g : Nat) (caps : List SV) (Hc : Heap) (pr : Int → Bool) (n0 : Nat) (L : List Int) (e off len cap : Nat) (hl : off + len ≤ L.length) (hm : len ≤ 9223372036854775806)
    (hc : ∀ x ∈ (L.drop off).take len, PureH Try.prog g (.int x :: caps) ((0, .ints L e) :: Hc) (.bool (pr x))) (hw : wfL n0 caps) (hwH : hwf n0 ((0, .ints L e) :: Hc)) :
    PureH Try.prog 111 [.slice 0 off len cap, .fn g caps] ((0, .ints L e) :: Hc) (.bool (((L.drop off).take len).any pr)) := by
  have h00 : 0 < n0 := (hwH 0 _ (by rw [hget_cons, if_pos rfl])).1
  refine pure_of_vc (X := ⟨Try.prog, tys, [(122, fun args H => some (args = [.slice 0 off len cap, .fn g caps] ∧ H = ((0, .ints L e) :: Hc), .int (idxI pr ((L.drop off).take len))))], [], true, true, n0, [], []⟩) fn_111
    ⟨tys_ok, .cons (fun args H p v h hp => ?_) .nil, .nil, mixed⟩ (n0 := n0) (Nat.le_of_ble_eq_true rfl) ⟨by simpa [SV.wf] using h00, by simpa [SV.wf] using hw, trivial⟩ hwH (Nat.le_refl _) (fun _ => trivial) ?_
  · cases h
    obtain ⟨rfl, rfl⟩ := hp
    exact indexFuncI_ok g caps Hc pr n0 L e off len cap hl hm hc hw hwH
  simp -implicitDefEqProofs only [Try.f111, Option.getD_some, argS, SB, SV.known, packR, ne_eq, reduceCtorEq, Nat.reduceEqDiff, ↓reduceIte, if_true, if_false, eq_self, Nat.reduceAdd, Nat.reduceMul, Nat.reduceSub, forall_const, oneCellS, litOne, flat1, Kd.isSca, flat, TYB, idxI_any]

/-- areAll's own closure. -/
theorem areAllI1_ok (x : Int) (g : Nat) (pr : Int → Bool) (k et : Nat) (H : Heap) (hk : hget H k = some (.cells [.fn g []] et)) (hg : PureH Try.prog g [.int x] [] (.bool (pr x))) :
    PureH Try.prog 112 [.int x, .ptr k 0] H (.bool (!pr x)) := by
  have h0 : PureH Try.prog 112 [.int x, .ptr 0 0] [(0, .cells [.fn g []] et)] (.bool (!pr x)) := by
    refine pure_of_vc (X := ⟨Try.prog, tys, [(g, fun args _ => some (args = [.int x], .bool (pr x)))], [], true, true, 1, [], []⟩) fn_112
      ⟨tys_ok, .cons (fun args H p v h hp => ?_) .nil, .nil, mixed⟩ (n0 := 1) (Nat.le_of_ble_eq_true rfl) (by simp [wfL, SV.wf]) (wfH_spec (by simp [wfH, SObj.wf, wfL, SV.wf])) (Nat.le_refl _) (fun _ => trivial) ?_
    · cases h; subst hp; exact hg.any H
    simp -implicitDefEqProofs only [Try.f112, Option.getD_some, argS, SB, SV.known, packR, ne_eq, reduceCtorEq, Nat.reduceEqDiff, ↓reduceIte, if_true, if_false, eq_self, Nat.reduceAdd, Nat.reduceMul, Nat.reduceSub, forall_const, oneCellS, litOne, flat1, Kd.isSca, flat, TYB]
  exact h0.sub (H := H) (fun _ => k) (fun j o hj => by
    rw [hget_cons] at hj
    split at hj
    · cases hj; exact ⟨hk, fun _ => by omega, by simp [*]⟩
    · cases hj) (fun a ha b hb _ => by simp at ha hb; omega) (fun _ => trivial)

theorem all_any (pr : Int → Bool) (l : List Int) : (!l.any fun x => !pr x) = l.all pr := by simp [List.all_eq_not_any_not]

theorem areAllI_ok (g : Nat) (pr : Int → Bool) (L : List Int) (e off len cap : Nat) (hl : off + len ≤ L.length) (hm : len ≤ 9223372036854775806) (hg : ∀ x, PureH Try.prog g [.int x] [] (.bool (pr x))) :
    PureH Try.prog 78 [.slice 0 off len cap, .fn g []] [(0, .ints L e)] (.bool (((L.drop off).take len).all pr)) := by
  refine pure_of_vc (X := ⟨Try.prog, tys, [(111, fun args H => some (args = [.slice 0 off len cap, .fn 112 [.ptr 1 0]] ∧ hget H 0 = some (.ints L e) ∧ ∃ et, hget H 1 = some (.cells [.fn g []] et), .bool (((L.drop off).take len).any fun x => !pr x)))], [], true, true, 1, [], []⟩) fn_78
    ⟨tys_ok, .cons (fun args H p v h hp => ?_) .nil, .nil, mixed⟩ (n0 := 1) (Nat.le_of_ble_eq_true rfl) (by simp [wfL, SV.wf]) (wfH_spec (by simp [wfH, SObj.wf])) (Nat.le_refl _) (fun _ => trivial) ?_
  · cases h
    obtain ⟨rfl, h0, et, h1⟩ := hp
    have := containsFuncI_ok 112 [.ptr 1 0] [(1, .cells [.fn g []] et)] (fun x => !pr x) 2 L e off len cap hl hm (fun x _ => areAllI1_ok x g pr 1 et _ (by simp [hget_cons]) (hg x)) (by simp [wfL, SV.wf]) (wfH_spec (by simp [wfH, SObj.wf, wfL, SV.wf]))
    refine this.weaken (fun k o hk => ?_) (fun _ => trivial)
    simp only [hget_cons, hget_nil] at hk
    split at hk
    · rename_i h; cases hk; rw [h]; exact h0
    · split at hk
      · rename_i h; cases hk; rw [h]; exact h1
      · cases hk
  simp -implicitDefEqProofs only [Try.f78, Option.getD_some, argS, SB, SV.known, packR, ne_eq, reduceCtorEq, Nat.reduceEqDiff, ↓reduceIte, if_true, if_false, eq_self, Nat.reduceAdd, Nat.reduceMul, Nat.reduceSub, forall_const, oneCellS, litOne, flat1, Kd.isSca, flat, TYB, all_any]
  exact ⟨_, rfl⟩

/-- areAll at a list of predicates. -/
def areAllI_F (prs : List (Nat × (Int → Bool))) : List SV → Heap → Option (Prop × SV)
  | [.slice b off len _, .fn g []], H => match hget H b, prs.lookup g with
    | some (.ints L _), some pr => some (off + len ≤ L.length ∧ len ≤ 9223372036854775806, .bool (((L.drop off).take len).all pr))
    | _, _ => none
  | _, _ => none
theorem areAllI_T {prs : List (Nat × (Int → Bool))} (hp : ∀ q ∈ prs, ∀ x, PureH Try.prog q.1 [.int x] [] (.bool (q.2 x))) : ∀ args H p v, areAllI_F prs args H = some (p, v) → p → PureH Try.prog 78 args H v := by
  intro args H p v h hpp
  unfold areAllI_F at h
  split at h
  · rename_i b off len cap g
    split at h
    · rename_i L e pr hb hg
      cases h
      have := areAllI_ok g pr L e off len cap hpp.1 hpp.2 (hp _ (lookup_mem hg))
      exact this.sub (H := H) (fun _ => b) (fun j o hj => by
        rw [hget_cons] at hj
        split at hj
        · cases hj; exact ⟨hb, fun _ => by omega, by simp [*]⟩
        · cases hj) (fun a ha c hc _ => by simp at ha hc; omega) (fun _ => trivial)
    · cases h
  · cases h

/-! Walks in the caller's own heap, at any names. -/
theorem gen_direct {X : Cx} {f : FuncId} {fn : Func} {c : Code} (hf : FnOK X.P f fn c X.sx X.hr) (hX : CxOK X) {args : List SV} {H : Heap} {n m : Nat} {ψ κ : K1} (hm : X.m = m) (hN : args.length ≤ fn.ntmps)
    (h : hwf n H → wfL n args → codeVC X n c (argS 0 args) H n (retK X.τ fn.results.toList ψ)) (hk : hwf n H → ∀ v H' n', ψ v H' n' → n ≤ n' → hwf n' H' → v.wf n' → κ v H' n') : GenOK X.P f args H n m κ := by
  subst hm
  refine ⟨hf.ent, fun B M w hH hwH hwa hown hM => ?_⟩
  refine (run_of_vc hf hX hN hwa hwH (Nat.le_refl _) (h hwH hwa) B M w hH hown hM).mono fun e w' hh => ?_
  obtain ⟨v, H', n', B', g0, g1, g2, g3, g4, g5, g6, g7, g8⟩ := hh
  exact ⟨v, H', n', B', g0, hk hwH v H' n' g1 g8 g3 g2, g8, g2, g3, g7, g4, g5, g6⟩
theorem ne_add' {k n : Nat} (h : k < n) : (k = n) = False := by simp; omega
theorem add_self (n i : Nat) : (n = n + (i + 1)) = False := by simp
theorem self_add (n i : Nat) : (n + (i + 1) = n) = False := by simp
theorem add_add (n i j : Nat) : (n + i = n + j) = (i = j) := by simp
end Go.Proofs.Ytckcojgfgcjamaa
set_option maxRecDepth 100000
set_option linter.unusedSimpArgs false
set_option linter.unusedVariables false
namespace Go.Proofs.Ytckcojgfgcjamaa
open Go Go.RowKit
--@tbl toIntA6 = laws.toIntA6
/-! IsDepths. -/
end Go.Proofs.Ytckcojgfgcjamaa
