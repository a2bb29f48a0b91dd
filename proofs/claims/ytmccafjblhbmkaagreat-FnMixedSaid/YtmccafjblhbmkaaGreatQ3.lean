/- Texts of this claim, joined (Evl, Ty, Fn). -/
import Derived.Test.YtmccafjblhbmkaaGreatQ1
import Derived.Test.YtmccafjblhbmkaaGreatQ2
set_option maxRecDepth 100000
set_option linter.unusedSimpArgs false
set_option linter.unusedVariables false
namespace Go.Proofs.YtmccafjblhbmkaaGreat
open Go Go.RowKit

/-- A test: what follows is kept closed until it is decided. -/
def bSplit (c : Bool) (A B : Unit → Prop) : Prop := (c = true → A ()) ∧ (c = false → B ())
theorem bs_true (A B : Unit → Prop) : bSplit true A B = A () := by simp [bSplit]
theorem bs_false (A B : Unit → Prop) : bSplit false A B = B () := by simp [bSplit]
theorem bs_not (c : Bool) (A B : Unit → Prop) : bSplit (!c) A B = bSplit c B A := by cases c <;> simp [bSplit]
theorem bs_dec (p : Prop) [Decidable p] (A B : Unit → Prop) : bSplit (decide p) A B = ((p → A ()) ∧ (¬ p → B ())) := by simp [bSplit]
def codeU (X : Cx) (p : Nat) (c : Code) (S : Env) (H : Heap) (n : Nat) (K : KE) : Unit → Prop := fun _ => codeVC X p c S H n K
theorem codeU_eq (X : Cx) (p : Nat) (c : Code) (S : Env) (H : Heap) (n : Nat) (K : KE) : codeU X p c S H n K () = codeVC X p c S H n K := rfl
theorem cv_skip (X : Cx) (p : Nat) (S : Env) (H : Heap) (n : Nat) (K : KE) : codeVC X p .skip S H n K = K .normal S H n := rfl
theorem cv_region (X : Cx) (p id : Nat) (l : List Oper) (draw : Bool) (S : Env) (H : Heap) (n : Nat) (K : KE) : codeVC X p (.region id l.toArray draw) S H n K = regB X p (X.hr.lookup id) draw l.toArray l S H n K := rfl
theorem regB_none (X : Cx) (p : Nat) (draw : Bool) (ops : Array Oper) (l : List Oper) (S : Env) (H : Heap) (n : Nat) (K : KE) : regB X p none draw ops l S H n K = opsVC X draw ops l S H n (normK K) := rfl
def endK (X : Cx) (ops : Array Oper) (l : List Oper) (S : Env) (n : Nat) (K : KE) : Heap → Prop := fun H' => opsVH X ops l S H' n (normK K)
theorem endK_eq (X : Cx) (ops : Array Oper) (l : List Oper) (S : Env) (n : Nat) (K : KE) (H' : Heap) : endK X ops l S n K H' = opsVH X ops l S H' n (normK K) := rfl
theorem regB_some (X : Cx) (p : Nat) (ts : List Nat) (draw : Bool) (ops : Array Oper) (l : List Oper) (S : Env) (H : Heap) (n : Nat) (K : KE) : regB X p (some (.holes ts)) draw ops l S H n K = (draw = true ∧ startH ts S H (endK X ops l S n K)) := rfl
/-- A region walked by a tree: what it comes to is told by hand. -/
def joinVC (X : Cx) (p : Nat) (T : OT) (l : List Oper) (S : Env) (H : Heap) (n : Nat) (K : KE) : Prop := ∃ (ι : Type) (S' : ι → Env) (H' : ι → Heap) (n' : ι → Nat), treeVC X l.toArray T S H n (joinK p X.m S' H' n') ∧ ∀ i, K .normal (S' i) (H' i) (n' i)
theorem regB_tree (X : Cx) (p : Nat) (T : OT) (l : List Oper) (S : Env) (H : Heap) (n : Nat) (K : KE) : regB X p (some (.tree T)) true l.toArray l S H n K = joinVC X p T l S H n K := by simp [regB, joinVC]
theorem jk {ι : Type} (p m : Nat) (S : ι → Env) (H : ι → Heap) (n : ι → Nat) (S' H' n') : joinK p m S H n S' H' n' = ∃ i, Sub p m S' H' (S i) (H i) (n i) := rfl
def treeK (X : Cx) (all : Array Oper) (T : OT) (K : KR) : KR := fun S' H' n' => treeVC X all T S' H' n' K
theorem treeK_eq (X : Cx) (all : Array Oper) (T : OT) (K : KR) (S' H' n') : treeK X all T K S' H' n' = treeVC X all T S' H' n' K := rfl
theorem tv_done (X : Cx) (all : Array Oper) (S : Env) (H : Heap) (n : Nat) (K : KR) : treeVC X all .done S H n K = K S H n := rfl
theorem tv_stop (X : Cx) (all : Array Oper) (S : Env) (H : Heap) (n : Nat) (K : KR) : treeVC X all .stop S H n K = True := rfl
def opAt (X : Cx) (all : Array Oper) (o : Option Oper) (S : Env) (H : Heap) (n : Nat) (K : KR) : Prop := match o with
  | some o => opsVC X true all [o] S H n K
  | none => False
theorem opAt_some (X : Cx) (all : Array Oper) (o : Oper) (S : Env) (H : Heap) (n : Nat) (K : KR) : opAt X all (some o) S H n K = opsVC X true all [o] S H n K := rfl
theorem tv_one (X : Cx) (l : List Oper) (k : Nat) (t : OT) (S : Env) (H : Heap) (n : Nat) (K : KR) : treeVC X l.toArray (.one k t) S H n K = opAt X l.toArray l[k]? S H n (treeK X l.toArray t K) := by
  conv => lhs; unfold treeVC
  rw [List.getElem?_toArray]; unfold opAt treeK; rfl
theorem tv_alt (X : Cx) (l : List Oper) (k : Nat) (t r : OT) (S : Env) (H : Heap) (n : Nat) (K : KR) : treeVC X l.toArray (.alt k t r) S H n K = (opAt X l.toArray l[k]? S H n (treeK X l.toArray t K) ∧ treeVC X l.toArray r S H n K) := by
  conv => lhs; unfold treeVC
  rw [List.getElem?_toArray]; unfold opAt treeK; rfl
theorem o_insert (X : Cx) (q : Bool) (S : Env) (H : Heap) (n : Nat) (κ : K1) (t : TypeId) (x i v : Operand) : opVC X q (.insert t x i v) S H n κ = mapUpdateVC X.P X.m (X.τ t) (ev S x) (ev S i) (ev S v) H n κ := rfl
theorem cv_seq (X : Cx) (p : Nat) (a b : Code) (S : Env) (H : Heap) (n : Nat) (K : KE) : codeVC X p (.seq a b) S H n K = codeVC X p a S H n (seqK (codeVC X p b) K) := rfl
def condB (X : Cx) (p : Nat) (v : SV) (x y : Code) (S : Env) (H : Heap) (n : Nat) (K : KE) : Prop := match v with
  | .bool b => bSplit b (codeU X p x S H n K) (codeU X p y S H n K)
  | _ => False
theorem condB_bool (X : Cx) (p : Nat) (b : Bool) (x y : Code) (S : Env) (H : Heap) (n : Nat) (K : KE) : condB X p (.bool b) x y S H n K = bSplit b (codeU X p x S H n K) (codeU X p y S H n K) := rfl
theorem cv_cond (X : Cx) (p : Nat) (c : Operand) (x y : Code) (S : Env) (H : Heap) (n : Nat) (K : KE) : codeVC X p (.cond c x y) S H n K = condB X p (ev S c) x y S H n K := by
  conv => lhs; unfold codeVC
  unfold condB
  cases ev S c <;> rfl
theorem cv_block (X : Cx) (p id : Nat) (c : Code) (S : Env) (H : Heap) (n : Nat) (K : KE) : codeVC X p (.block id c) S H n K = codeVC X p c S H n (blockK id K) := rfl
theorem cv_exit (X : Cx) (p id : Nat) (S : Env) (H : Heap) (n : Nat) (K : KE) : codeVC X p (.exit id) S H n K = K (.exit id) S H n := rfl
theorem cv_ret (X : Cx) (p : Nat) (S : Env) (H : Heap) (n : Nat) (K : KE) : codeVC X p .ret S H n K = K .ret S H n := rfl
theorem loop_introN {X : Cx} {p : Nat} {c : Code} {S : Env} {H : Heap} {n : Nat} {K : KE} {ι : Type} (Sι : ι → Env) (Hι : ι → Heap) (nι : ι → Nat) (φ : ι → Prop) (μ : ι → Nat)
    (h0 : ∃ j, φ j ∧ Sub p X.m S H (Sι j) (Hι j) (nι j)) (h : ∀ i, φ i → codeVC X p c (Sι i) (Hι i) (nι i) (loopK p X.m Sι Hι nι φ μ i K)) : codeVC X p (.loop c) S H n K := ⟨ι, Sι, Hι, nι, φ, μ, h0, h⟩
theorem loop_intro {X : Cx} {p : Nat} {c : Code} {S : Env} {H : Heap} {n : Nat} {K : KE} {ι : Type} (Sι : ι → Env) (Hι : ι → Heap) (nι : Nat) (φ : ι → Prop) (μ : ι → Nat)
    (h0 : ∃ j, φ j ∧ Sub p X.m S H (Sι j) (Hι j) nι) (h : ∀ i, φ i → codeVC X p c (Sι i) (Hι i) nι (loopK p X.m Sι Hι (fun _ => nι) φ μ i K)) : codeVC X p (.loop c) S H n K := ⟨ι, Sι, Hι, fun _ => nι, φ, μ, h0, h⟩
theorem sk_normal (f : Env → Heap → Nat → KE → Prop) (K : KE) (S : Env) (H : Heap) (n : Nat) : seqK f K .normal S H n = f S H n K := rfl
theorem sk_exit (f : Env → Heap → Nat → KE → Prop) (K : KE) (id : Nat) (S : Env) (H : Heap) (n : Nat) : seqK f K (.exit id) S H n = K (.exit id) S H n := rfl
theorem sk_ret (f : Env → Heap → Nat → KE → Prop) (K : KE) (S : Env) (H : Heap) (n : Nat) : seqK f K .ret S H n = K .ret S H n := rfl
theorem bk_normal (id : Nat) (K : KE) (S : Env) (H : Heap) (n : Nat) : blockK id K .normal S H n = K .normal S H n := rfl
theorem bk_exit (id id' : Nat) (K : KE) (S : Env) (H : Heap) (n : Nat) : blockK id K (.exit id') S H n = if id' = id then K .normal S H n else K (.exit id') S H n := rfl
theorem bk_ret (id : Nat) (K : KE) (S : Env) (H : Heap) (n : Nat) : blockK id K .ret S H n = K .ret S H n := rfl
theorem nk (K : KE) (S : Env) (H : Heap) (n : Nat) : normK K S H n = K .normal S H n := rfl
theorem lk_exit {ι : Type} (p m : Nat) (Sι : ι → Env) (Hι : ι → Heap) (nι : ι → Nat) (φ : ι → Prop) (μ : ι → Nat) (i : ι) (K : KE) (id : Nat) (S : Env) (H : Heap) (n : Nat) : loopK p m Sι Hι nι φ μ i K (.exit id) S H n = K (.exit id) S H n := rfl
theorem lk_ret {ι : Type} (p m : Nat) (Sι : ι → Env) (Hι : ι → Heap) (nι : ι → Nat) (φ : ι → Prop) (μ : ι → Nat) (i : ι) (K : KE) (S : Env) (H : Heap) (n : Nat) : loopK p m Sι Hι nι φ μ i K .ret S H n = K .ret S H n := rfl
theorem lk_normal {ι : Type} (p m : Nat) (Sι : ι → Env) (Hι : ι → Heap) (nι : ι → Nat) (φ : ι → Prop) (μ : ι → Nat) (i : ι) (K : KE) (S : Env) (H : Heap) (n : Nat) : loopK p m Sι Hι nι φ μ i K .normal S H n = ∃ j, φ j ∧ μ j < μ i ∧ Sub p m S H (Sι j) (Hι j) (nι j) := rfl
theorem rk_normal (τ : Tys) (rs : List ResultVar) (κ : K1) (S : Env) (H : Heap) (n : Nat) : retK τ rs κ .normal S H n = resVC τ S H n κ rs [] := rfl
theorem rk_ret (τ : Tys) (rs : List ResultVar) (κ : K1) (S : Env) (H : Heap) (n : Nat) : retK τ rs κ .ret S H n = resVC τ S H n κ rs [] := rfl
theorem rv_nil (τ : Tys) (S : Env) (H : Heap) (n : Nat) (κ : K1) (acc : List SV) : resVC τ S H n κ [] acc = κ (packR acc.reverse) H n := rfl
theorem rv_tmp (τ : Tys) (S : Env) (H : Heap) (n : Nat) (κ : K1) (t : Tmp) (r : List ResultVar) (acc : List SV) : resVC τ S H n κ (.tmp t :: r) acc = ((sget S t).known = true ∧ resVC τ S H n κ r (sget S t :: acc)) := rfl
def rvK (τ : Tys) (S : Env) (H : Heap) (n : Nat) (κ : K1) (r : List ResultVar) (acc : List SV) : K1 := fun v _ _ => v.known = true ∧ resVC τ S H n κ r (v :: acc)
theorem rvK_eq (τ : Tys) (S : Env) (H : Heap) (n : Nat) (κ : K1) (r : List ResultVar) (acc : List SV) (v : SV) (H' : Heap) (n' : Nat) : rvK τ S H n κ r acc v H' n' = (v.known = true ∧ resVC τ S H n κ r (v :: acc)) := rfl
theorem rv_cell (τ : Tys) (S : Env) (H : Heap) (n : Nat) (κ : K1) (a t : Nat) (r : List ResultVar) (acc : List SV) : resVC τ S H n κ (.cell a t :: r) acc = loadVC (τ t) (sget S a) H n (rvK τ S H n κ r acc) := rfl

/-! Operations. -/
section
variable (X : Cx) (q : Bool) (all : Array Oper) (rest : List Oper) (S : Env) (H : Heap) (n : Nat) (K : KR) (κ : K1)
theorem ov_nil : opsVC X q all [] S H n K = K S H n := rfl
theorem ov_run (d : Option Tmp) (op : Op) (ty : TypeId) (pos : String) (af : Array Edge) : opsVC X q all (⟨d, op, ty, pos, af, none⟩ :: rest) S H n K = opVC X q op S H n (restK X q all rest S d K) := rfl
theorem rest_eq (d : Option Tmp) (v : SV) (H' : Heap) (n' : Nat) : restK X q all rest S d K v H' n' = opsVC X q all rest (sput S d v) H' n' K := rfl
def gdRun (op : Op) (d : Option Tmp) : Unit → Prop := fun _ => opVC X q op S H n (restK X q all rest S d K)
def gdSkip (d : Option Tmp) : Unit → Prop := fun _ => opsVC X q all rest (sput S d .und) H n K
theorem gdRun_eq (op : Op) (d : Option Tmp) : gdRun X q all rest S H n K op d () = opVC X q op S H n (restK X q all rest S d K) := rfl
theorem gdSkip_eq (d : Option Tmp) : gdSkip X q all rest S H n K d () = opsVC X q all rest (sput S d .und) H n K := rfl
def gdB (v : SV) (t : Nat) (want : Bool) (op : Op) (d : Option Tmp) : Prop := match v with
  | .bool c => match want with
    | true => bSplit c (gdRun X q all rest ((t, .bool true) :: S) H n K op d) (gdSkip X q all rest ((t, .bool false) :: S) H n K d)
    | false => bSplit c (gdSkip X q all rest ((t, .bool true) :: S) H n K d) (gdRun X q all rest ((t, .bool false) :: S) H n K op d)
  | .und => opsVC X q all rest (sput S d .und) H n K
  | _ => False
theorem gdB_t (c : Bool) (t : Nat) (op : Op) (d : Option Tmp) : gdB X q all rest S H n K (.bool c) t true op d = bSplit c (gdRun X q all rest ((t, .bool true) :: S) H n K op d) (gdSkip X q all rest ((t, .bool false) :: S) H n K d) := rfl
theorem gdB_f (c : Bool) (t : Nat) (op : Op) (d : Option Tmp) : gdB X q all rest S H n K (.bool c) t false op d = bSplit c (gdSkip X q all rest ((t, .bool true) :: S) H n K d) (gdRun X q all rest ((t, .bool false) :: S) H n K op d) := rfl
theorem gdB_und (t : Nat) (want : Bool) (op : Op) (d : Option Tmp) : gdB X q all rest S H n K .und t want op d = opsVC X q all rest (sput S d .und) H n K := rfl
def gdT (t : Option Tmp) (want : Bool) (op : Op) (d : Option Tmp) : Prop := match t with
  | some t => gdB X q all rest S H n K (sget S t) t want op d
  | none => False
theorem gdT_some (t : Nat) (want : Bool) (op : Op) (d : Option Tmp) : gdT X q all rest S H n K (some t) want op d = gdB X q all rest S H n K (sget S t) t want op d := rfl
def dstAt (all : List Oper) (j : Nat) : Option Tmp := (all[j]?).bind (·.dst)
theorem dstAt_zero (o : Oper) (l : List Oper) : dstAt (o :: l) 0 = o.dst := rfl
theorem dstAt_succ (o : Oper) (l : List Oper) (j : Nat) : dstAt (o :: l) (j + 1) = dstAt l j := by simp [dstAt]
theorem ov_guard (l : List Oper) (d : Option Tmp) (op : Op) (ty : TypeId) (pos : String) (af : Array Edge) (j : Nat) (want : Bool) :
    opsVC X q l.toArray (⟨d, op, ty, pos, af, some (j, want)⟩ :: rest) S H n K = gdT X q l.toArray rest S H n K (dstAt l j) want op d := by
  conv => lhs; unfold opsVC
  simp only [dstAt, gdT, List.getElem?_toArray]
  cases hq : (l[j]?).bind (·.dst) with
  | none => rfl
  | some t =>
    simp only
    unfold gdB
    cases hs : sget S t with
    | bool c => cases want <;> cases c <;> simp [bSplit, gdRun, gdSkip] <;> rfl
    | _ => rfl
end
theorem sget_cons (t k : Nat) (v : SV) (S : Env) : sget ((k, v) :: S) t = if t = k then v else sget S t := by
  unfold sget
  rw [List.lookup_cons]
  by_cases h : t = k
  · simp [h]
  · have : (t == k) = false := by simpa using h
    simp [h, this]
theorem sput_some (S : Env) (t : Nat) (v : SV) : sput S (some t) v = (t, v) :: S := rfl
theorem sput_none (S : Env) (v : SV) : sput S none v = S := rfl
theorem tl_cons {α : Type} (k a : Nat) (b : α) (l : List (Nat × α)) : List.lookup k ((a, b) :: l) = if k = a then some b else List.lookup k l := by
  rw [List.lookup_cons]
  by_cases h : k = a
  · simp [h]
  · have : (k == a) = false := by simpa using h
    simp [h, this]
theorem tl_nil {α : Type} (k : Nat) : List.lookup k ([] : List (Nat × α)) = none := rfl
theorem ev_tmp (S : Env) (t : Nat) : ev S (.tmp t) = sget S t := rfl
theorem ev_func (S : Env) (f : Nat) : ev S (.func f) = .fn f [] := rfl
theorem ev_int (S : Env) (x : Int) : ev S (.const (.int .i64 x)) = .int x := rfl
theorem ev_bool (S : Env) (b : Bool) : ev S (.const (.bool b)) = .bool b := rfl
theorem hv_none (S : Env) : hintVC S none = True := rfl
theorem hv_some (S : Env) (x : Int) : hintVC S (some (.const (.int .i64 x))) = True := rfl
theorem ev_nils (S : Env) : ev S (.const (.slice none 0 0)) = .nils := rfl
theorem ev_agg (S : Env) (l : List Value) : ev S (.const (.agg l.toArray)) = match allI l with | some L => .arr L | none => .lit (.agg l.toArray) := rfl

section
variable (X : Cx) (q : Bool) (S : Env) (H : Heap) (n : Nat) (κ : K1)
theorem o_move (x : Operand) : opVC X q (.move x) S H n κ = κ (ev S x) H n := rfl
theorem o_assign (x : Operand) : opVC X q (.assign x) S H n κ = κ (ev S x) H n := rfl
theorem o_pick (c a b : Operand) : opVC X q (.pick c a b) S H n κ = pickVC (ev S c) (ev S a) (ev S b) H n κ := rfl
theorem o_load (t : TypeId) (a : Operand) : opVC X q (.load t a) S H n κ = loadVC (X.τ t) (ev S a) H n κ := rfl
theorem o_bin (op : BinOp) (t yt : TypeId) (x y : Operand) : opVC X q (.binOp op t x y yt) S H n κ = binVC X.P X.nw X.mw op t (X.τ t) (ev S x) (ev S y) H n κ := rfl
theorem o_conv (t u : TypeId) (x : Operand) : opVC X q (.convert t u x) S H n κ = convVC (X.τ t) (X.τ u) (ev S x) H n κ := rfl
theorem o_un (op : UnOp) (t : TypeId) (x : Operand) : opVC X q (.unOp op t x) S H n κ = unVC X.nw op (ev S x) H n κ := rfl
theorem o_extract (x : Operand) (i : Nat) : opVC X q (.extract x i) S H n κ = extractVC (ev S x) i H n κ := rfl
theorem o_makeFunc (fn : Fn) (first : Array Operand) (caps : List Operand) : opVC X q (.makeFunc fn first caps.toArray) S H n κ = makeFuncVC fn first (caps.map (ev S)) H n κ := rfl
theorem o_fieldAddr (t : TypeId) (x : Operand) (f : Nat) : opVC X q (.fieldAddr t x f) S H n κ = fieldAddrVC X.τ (X.τ t) (ev S x) f H n κ := rfl
theorem o_field (t : TypeId) (x : Operand) (f : Nat) : opVC X q (.field t x f) S H n κ = fieldVC X.τ (X.τ t) (ev S x) f H n κ := rfl
theorem o_nilCheck (x : Operand) : opVC X q (.nilCheck x) S H n κ = nilCheckVC (ev S x) H n κ := rfl
theorem o_indexAddr (t : TypeId) (x i : Operand) : opVC X q (.indexAddr t x i) S H n κ = indexAddrVC X.τ (X.τ t) (ev S x) (ev S i) H n κ := rfl
theorem o_index (t : TypeId) (x i : Operand) : opVC X q (.index t x i) S H n κ = indexVC X.τ (X.τ t) (ev S x) (ev S i) H n κ := rfl
theorem o_lookup (t : TypeId) (x i : Operand) (ok : Bool) : opVC X q (.lookup t x i ok) S H n κ = lookupVC X.P X.τ (X.τ t) (ev S x) (ev S i) ok H n κ := rfl
theorem o_mapUpdate (t : TypeId) (x i v : Operand) : opVC X q (.mapUpdate t x i v) S H n κ = mapUpdateVC X.P X.m (X.τ t) (ev S x) (ev S i) (ev S v) H n κ := rfl
theorem o_makeMap (t : TypeId) (r : Option Operand) : opVC X q (.makeMap t r) S H n κ = (hintVC S r ∧ makeMapVC X.τ (X.τ t) H n κ) := rfl
theorem o_slice (t : TypeId) (x : Operand) (lo hi : Option Operand) : opVC X q (.slice t x lo hi none) S H n κ = sliceVC X.τ (X.τ t) (ev S x) (lo.map (ev S)) (hi.map (ev S)) H n κ := by
  show (true = true ∧ _) = _
  simp
theorem o_build (t : TypeId) (l : List (Nat × Operand)) : opVC X q (.build t l.toArray) S H n κ = buildVC X.τ (X.τ t) (l.map fun p => (p.1, ev S p.2)) H n κ := rfl
theorem o_len (l : List Operand) (ts : Array TypeId) : opVC X q (.call ⟨.builtin .len, l.toArray, ts⟩) S H n κ = ((l.map (ev S)).all SV.known = true ∧ builtinVC X.τ .len ts (l.map (ev S)) H n κ) := rfl
theorem o_min (l : List Operand) (ts : Array TypeId) : opVC X q (.call ⟨.builtin .min, l.toArray, ts⟩) S H n κ = ((l.map (ev S)).all SV.known = true ∧ builtinVC X.τ .min ts (l.map (ev S)) H n κ) := rfl
theorem o_max (l : List Operand) (ts : Array TypeId) : opVC X q (.call ⟨.builtin .max, l.toArray, ts⟩) S H n κ = ((l.map (ev S)).all SV.known = true ∧ builtinVC X.τ .max ts (l.map (ev S)) H n κ) := rfl
theorem o_append (x y : Operand) (t : TypeId) : opVC X q (.call ⟨.builtin .append, [x, y].toArray, [t, t].toArray⟩) S H n κ = appendVC X.τ X.m (X.τ t) (ev S x) (ev S y) H n κ := by
  show (t = t ∧ _) = _
  simp
theorem o_clear (x : Operand) (t : TypeId) : opVC X q (.call ⟨.builtin .clear, [x].toArray, [t].toArray⟩) S H n κ = clearVC X.τ X.m (X.τ t) (ev S x) H n κ := rfl
theorem o_alloc (e : TypeId) : opVC X q (.alloc e) S H n κ = ((X.τ e).k ≠ .other ∧ flat (X.τ e).z = true ∧ newVC (X.τ e).z e H n κ) := by
  rfl
theorem o_box (e : TypeId) (x : Operand) : opVC X q (.box e x) S H n κ = newVC (ev S x) e H n κ := by
  rfl
theorem o_store (t : TypeId) (a x : Operand) : opVC X q (.store t a x) S H n κ = storeVC X.m (X.τ t) (ev S a) (ev S x) H n κ := by
  rfl
theorem o_buildSlice (t : TypeId) (len : Nat) (l : List (Nat × Operand)) : opVC X q (.buildSlice t len l.toArray) S H n κ = buildSliceVC X.τ (X.τ t) len (l.map fun p => (p.1, ev S p.2)) H n κ := by
  rfl
theorem o_makeSlice (t : TypeId) (l c : Operand) : opVC X q (.makeSlice t l c) S H n κ = makeSliceVC X.τ (X.τ t) (ev S l) (ev S c) H n κ := by
  rfl
theorem o_call (f : Operand) (l : List Operand) (ts : Array TypeId) : opVC X false (.call ⟨.value f, l.toArray, ts⟩) S H n κ = (l.all (fun x => (ev S x).known) = true ∧ callVC X false (ev S f) (l.map (ev S)) H n κ) := rfl
theorem o_callD (f : Operand) (l : List Operand) (ts : Array TypeId) : opVC X true (.call ⟨.value f, l.toArray, ts⟩) S H n κ = (l.all (fun x => (ev S x).known) = true ∧ callVC X (!isIn X.sx f) (ev S f) (l.map (ev S)) H n κ) := rfl
theorem isIn_nil (o : Operand) : isIn [] o = false := rfl
theorem isIn_cons (k f : Nat) (l : List Nat) : isIn (k :: l) (.func f) = if k = f then true else isIn l (.func f) := rfl
theorem isIn_tmp (k t : Nat) (l : List Nat) : isIn (k :: l) (.tmp t) = false := rfl
theorem call_fn (f : Nat) (caps args : List SV) : callVC X q (.fn f caps) args H n κ = callPG X q (X.Γp.lookup f) f (args ++ caps) H n κ := rfl
theorem callPG_some (F : List SV → Heap → Option (Prop × SV)) (f : Nat) (args : List SV) : callPG X q (some F) f args H n κ = resP (F args H) H n κ := rfl
theorem callPG_none (f : Nat) (args : List SV) : callPG X false none f args H n κ = callG X (X.Γ.lookup f) f args H n κ := by simp [callPG]
theorem callG_some (G : List SV → Heap → Nat → Nat → K1 → Prop) (f : Nat) (args : List SV) : callG X (some G) f args H n κ = G args H n X.m κ := rfl
theorem resP_some (p : Prop) (v : SV) : resP (some (p, v)) H n κ = (p ∧ κ v H n) := rfl
end

section
variable (P : Program) (τ : Tys) (nw mw : Bool) (m : Nat) (t : TypeId) (s b : Nat) (z : SV) (H : Heap) (n : Nat) (κ : K1)
theorem cellM_some (v : SV) : cellM (some v) H n κ = (oneCellS v = true ∧ κ v H n) := rfl
def pickU (v : SV) : Unit → Prop := fun _ => κ v H n
theorem pickU_eq (v : SV) : pickU H n κ v () = κ v H n := rfl
theorem pick_bool (c : Bool) (x y : SV) : pickVC (.bool c) x y H n κ = bSplit c (pickU H n κ x) (pickU H n κ y) := rfl
theorem load_ptr (d : TyD) (k off : Nat) : loadVC d (.ptr k off) H n κ = loadB d (hget H k) off H n κ := rfl
theorem load_int (L : List Int) (e off : Nat) : loadB ⟨.int, s, b, z⟩ (some (.ints L e)) off H n κ = (off < L.length ∧ κ (.int (L.getD off 0)) H n) := rfl
theorem load_arr (k e' : Nat) (L : List Int) (e off : Nat) : loadB ⟨.arr k e', s, b, z⟩ (some (.ints L e)) off H n κ = (off + s ≤ L.length ∧ κ (.arr ((L.drop off).take s)) H n) := rfl
theorem load_str (fs : List (Nat × Nat)) (L : List Int) (e off : Nat) : loadB ⟨.str fs, s, b, z⟩ (some (.ints L e)) off H n κ = (off + s ≤ L.length ∧ κ (.arr ((L.drop off).take s)) H n) := rfl
theorem load_wint (o : Nat) (L : List Int) (off : Nat) : loadB ⟨.int, s, b, z⟩ (some (.win o L)) off H n κ = (o ≤ off ∧ off < o + L.length ∧ κ (.int (L.getD (off - o) 0)) H n) := rfl
theorem load_warr (k e' o : Nat) (L : List Int) (off : Nat) : loadB ⟨.arr k e', s, b, z⟩ (some (.win o L)) off H n κ = (0 < s ∧ o ≤ off ∧ off + s ≤ o + L.length ∧ κ (.arr ((L.drop (off - o)).take s)) H n) := rfl
theorem load_wstr (fs : List (Nat × Nat)) (o : Nat) (L : List Int) (off : Nat) : loadB ⟨.str fs, s, b, z⟩ (some (.win o L)) off H n κ = (0 < s ∧ o ≤ off ∧ off + s ≤ o + L.length ∧ κ (.arr ((L.drop (off - o)).take s)) H n) := rfl
theorem load_bool (L : List Bool) (e off : Nat) : loadB ⟨.bool, s, b, z⟩ (some (.bls L e)) off H n κ = (off < L.length ∧ κ (.bool (L.getD off false)) H n) := rfl
theorem load_cellsI (l : List SV) (e off : Nat) : loadB ⟨.int, s, b, z⟩ (some (.cells l e)) off H n κ = cellM l[off]? H n κ := by simp [loadB, Kd.isSca]
theorem load_cellsB (l : List SV) (e off : Nat) : loadB ⟨.bool, s, b, z⟩ (some (.cells l e)) off H n κ = cellM l[off]? H n κ := by simp [loadB, Kd.isSca]
theorem load_cellsL (e1 : Nat) (l : List SV) (e off : Nat) : loadB ⟨.sl e1, s, b, z⟩ (some (.cells l e)) off H n κ = cellM l[off]? H n κ := by simp [loadB, Kd.isSca]
theorem load_cellsM (k1 e1 : Nat) (l : List SV) (e off : Nat) : loadB ⟨.mp k1 e1, s, b, z⟩ (some (.cells l e)) off H n κ = cellM l[off]? H n κ := by simp [loadB, Kd.isSca]
theorem load_cellsS (l : List SV) (e off : Nat) : loadB ⟨.sca, s, b, z⟩ (some (.cells l e)) off H n κ = cellM l[off]? H n κ := by simp [loadB, Kd.isSca]
theorem load_cellsU (k1 : IntKind) (l : List SV) (e off : Nat) : loadB ⟨.num k1, s, b, z⟩ (some (.cells l e)) off H n κ = cellM l[off]? H n κ := by simp [loadB, Kd.isSca]
theorem load_winU (o : Nat) (L : List Int) (off : Nat) : loadB ⟨.num .u8, s, b, z⟩ (some (.winU o L)) off H n κ = (o ≤ off ∧ off < o + L.length ∧ κ (.lit (.int .u8 (L.getD (off - o) 0))) H n) := rfl
theorem load_cellsR (fs : List (Nat × Nat)) (l : List SV) (e off : Nat) : loadB ⟨.str fs, s, b, z⟩ (some (.cells l e)) off H n κ = (off + s ≤ l.length ∧ κ (.stc ((l.drop off).take s)) H n) := rfl
theorem bin_ii (op : BinOp) (d : TyD) (x y : Int) : binVC P nw mw op t d (.int x) (.int y) H n κ = intVC nw mw op x y H n κ := rfl
theorem i_add (x y : Int) : intVC nw mw .add x y H n κ = arVC nw (x + y) H n κ := rfl
theorem i_sub (x y : Int) : intVC nw mw .sub x y H n κ = arVC nw (x - y) H n κ := rfl
theorem i_mul (x y : Int) : intVC nw mw .mul x y H n κ = arVC mw (x * y) H n κ := rfl
theorem i_quo (x y : Int) : intVC nw mw .quo x y H n κ = (y ≠ 0 ∧ arVC mw (x.tdiv y) H n κ) := rfl
theorem i_rem (x y : Int) : intVC nw mw .rem x y H n κ = (y ≠ 0 ∧ κ (.int (x.tmod y)) H n) := rfl
theorem i_eql (x y : Int) : intVC nw mw .eql x y H n κ = κ (.bool (decide (x = y))) H n := rfl
theorem i_neq (x y : Int) : intVC nw mw .neq x y H n κ = κ (.bool (!decide (x = y))) H n := rfl
theorem i_lss (x y : Int) : intVC nw mw .lss x y H n κ = κ (.bool (decide (x < y))) H n := rfl
theorem i_leq (x y : Int) : intVC nw mw .leq x y H n κ = κ (.bool (decide (x ≤ y))) H n := rfl
theorem i_gtr (x y : Int) : intVC nw mw .gtr x y H n κ = κ (.bool (decide (y < x))) H n := rfl
theorem i_geq (x y : Int) : intVC nw mw .geq x y H n κ = κ (.bool (decide (y ≤ x))) H n := rfl
theorem ar_t (x : Int) : arVC true x H n κ = (In64 x ∧ κ (.int x) H n) := rfl
theorem ar_f (x : Int) : arVC false x H n κ = κ (.int (IntKind.i64.wrap x)) H n := rfl
theorem bin_ll (op : BinOp) (d : TyD) (k k' : IntKind) (x y : Int) : binVC P nw mw op t d (.lit (.int k x)) (.lit (.int k' y)) H n κ = numVC op k k' x y H n κ := rfl
theorem bin_li (op : BinOp) (d : TyD) (k : IntKind) (x y : Int) : binVC P nw mw op t d (.lit (.int k x)) (.int y) H n κ = numVC op k .i64 x y H n κ := rfl
theorem n_add (k : IntKind) (x y : Int) : numVC .add k k x y H n κ = κ (.lit (.int k (k.wrap (x + y)))) H n := by simp [numVC]
theorem n_sub (k : IntKind) (x y : Int) : numVC .sub k k x y H n κ = κ (.lit (.int k (k.wrap (x - y)))) H n := by simp [numVC]
theorem n_mul (k : IntKind) (x y : Int) : numVC .mul k k x y H n κ = κ (.lit (.int k (k.wrap (x * y)))) H n := by simp [numVC]
theorem n_and (k : IntKind) (x y : Int) : numVC .and k k x y H n κ = κ (.lit (.int k (k.wrap (BitVec.ofInt k.bits x &&& BitVec.ofInt k.bits y).toNat))) H n := by simp [numVC]
theorem n_xor (k : IntKind) (x y : Int) : numVC .xor k k x y H n κ = κ (.lit (.int k (k.wrap (BitVec.ofInt k.bits x ^^^ BitVec.ofInt k.bits y).toNat))) H n := by simp [numVC]
theorem n_shr (k k' : IntKind) (x y : Int) : numVC .shr k k' x y H n κ = (0 ≤ y ∧ κ (.lit (.int k (x.fdiv (2 ^ (min y.toNat k.bits))))) H n) := rfl
theorem cv_int (d e : TyD) (x : Int) : convVC d e (.int x) H n κ = (d.k.isSca = true ∧ convI e x H n κ) := rfl
theorem cv_lit (d e : TyD) (k : IntKind) (x : Int) : convVC d e (.lit (.int k x)) H n κ = (d.k.isSca = true ∧ convI e x H n κ) := rfl
theorem ci_int (x : Int) : convI ⟨.int, s, b, z⟩ x H n κ = (In64 x ∧ κ (.int x) H n) := rfl
theorem ci_num (k : IntKind) (x : Int) : convI ⟨.num k, s, b, z⟩ x H n κ = κ (.lit (.int k (k.wrap x))) H n := rfl
theorem ev_u64 (S : Env) (x : Int) : ev S (.const (.int .u64 x)) = .lit (.int .u64 x) := rfl
theorem ev_u8 (S : Env) (x : Int) : ev S (.const (.int .u8 x)) = .lit (.int .u8 x) := rfl
theorem bin_bb_eql (x y : Bool) : binVC P nw mw .eql t ⟨.bool, s, b, z⟩ (.bool x) (.bool y) H n κ = κ (.bool (x == y)) H n := by simp [binVC]
theorem bin_bb_neq (x y : Bool) : binVC P nw mw .neq t ⟨.bool, s, b, z⟩ (.bool x) (.bool y) H n κ = κ (.bool (!(x == y))) H n := by simp [binVC]
theorem bin_aa_eql (d : TyD) (L M : List Int) : binVC P nw mw .eql t d (.arr L) (.arr M) H n κ = (EqI P t d.size ∧ L.length = d.size ∧ M.length = d.size ∧ κ (.bool (decide (L = M))) H n) := rfl
theorem bin_aa_neq (d : TyD) (L M : List Int) : binVC P nw mw .neq t d (.arr L) (.arr M) H n κ = (EqI P t d.size ∧ L.length = d.size ∧ M.length = d.size ∧ κ (.bool (!decide (L = M))) H n) := rfl
theorem un_not (x : Bool) : unVC nw .not (.bool x) H n κ = κ (.bool (!x)) H n := rfl
theorem un_neg (x : Int) : unVC nw .neg (.int x) H n κ = arVC nw (-x) H n κ := rfl
theorem extract_zero (v : SV) (l : List SV) : extractVC (.tup (v :: l)) 0 H n κ = κ v H n := rfl
theorem extract_succ (v : SV) (l : List SV) (i : Nat) : extractVC (.tup (v :: l)) (i + 1) H n κ = extractVC (.tup l) i H n κ := by simp [extractVC]
theorem makeFunc_func (f : Nat) (caps : List SV) : makeFuncVC (.func f) #[] caps H n κ = (caps.all SV.known = true ∧ κ (.fn f caps) H n) := by simp [makeFuncVC]
theorem fa_str (fs : List (Nat × Nat)) (k off f : Nat) : fieldAddrVC τ ⟨.str fs, s, b, z⟩ (.ptr k off) f H n κ = match fs[f]? with
    | some (o, ft) => (τ ft).k ≠ .other ∧ (τ ft).size ≠ 0 ∧ κ (.ptr k (off + o)) H n
    | none => False := rfl
theorem f_str (fs : List (Nat × Nat)) (L : List Int) (f : Nat) : fieldVC τ ⟨.str fs, s, b, z⟩ (.arr L) f H n κ = match fs[f]? with
    | some (o, ft) => partVC (τ ft) L o H n κ
    | none => False := rfl
theorem f_stc (fs : List (Nat × Nat)) (l : List SV) (f : Nat) : fieldVC τ ⟨.str fs, s, b, z⟩ (.stc l) f H n κ = match fs[f]? with
    | some (o, ft) => (τ ft).k.isSca = true ∧ cellM l[o]? H n κ
    | none => False := rfl
theorem nil_ptr (k off : Nat) : nilCheckVC (.ptr k off) H n κ = κ (.ptr k off) H n := rfl
theorem part_int (L : List Int) (off : Nat) : partVC ⟨.int, s, b, z⟩ L off H n κ = (off < L.length ∧ κ (.int (L.getD off 0)) H n) := rfl
theorem part_arr (k e : Nat) (L : List Int) (off : Nat) : partVC ⟨.arr k e, s, b, z⟩ L off H n κ = κ (.arr ((L.drop off).take s)) H n := rfl
theorem part_str (fs : List (Nat × Nat)) (L : List Int) (off : Nat) : partVC ⟨.str fs, s, b, z⟩ L off H n κ = κ (.arr ((L.drop off).take s)) H n := rfl
theorem ia_arr (len e k off : Nat) (i : Int) : indexAddrVC τ ⟨.arr len e, s, b, z⟩ (.ptr k off) (.int i) H n κ = ((τ e).k ≠ .other ∧ 0 ≤ i ∧ i < len ∧ κ (.ptr k (off + i.toNat * (τ e).size)) H n) := rfl
theorem ia_sl (e k off len cap : Nat) (i : Int) : indexAddrVC τ ⟨.sl e, s, b, z⟩ (.slice k off len cap) (.int i) H n κ = ((τ e).k ≠ .other ∧ 0 ≤ i ∧ i < len ∧ κ (.ptr k (off + i.toNat * (τ e).size)) H n) := rfl
theorem ix_arr (len e : Nat) (L : List Int) (i : Int) : indexVC τ ⟨.arr len e, s, b, z⟩ (.arr L) (.int i) H n κ = (0 ≤ i ∧ i < len ∧ partVC (τ e) L (i.toNat * (τ e).size) H n κ) := rfl
theorem sl_arr (len e k off : Nat) (lo hi : Option SV) : sliceVC τ ⟨.arr len e, s, b, z⟩ (.ptr k off) lo hi H n κ = ((τ e).k ≠ .other ∧ bndVC hi len len fun h => bndVC lo 0 h fun l => κ (.slice k (cutOff len l off (τ e).size) (h - l) (len - l)) H n) := rfl
theorem sl_sl (e k off len cap : Nat) (lo hi : Option SV) : sliceVC τ ⟨.sl e, s, b, z⟩ (.slice k off len cap) lo hi H n κ = ((τ e).k ≠ .other ∧ bndVC hi len cap fun h => bndVC lo 0 h fun l => κ (.slice k (cutOff cap l off (τ e).size) (h - l) (cap - l)) H n) := rfl
theorem sl_nils (e : Nat) (lo hi : Option SV) : sliceVC τ ⟨.sl e, s, b, z⟩ .nils lo hi H n κ = ((τ e).k ≠ .other ∧ bndVC hi 0 0 fun h => bndVC lo 0 h fun _ => κ .nils H n) := rfl
theorem bnd_none (d hi : Nat) (κ' : Nat → Prop) : bndVC none d hi κ' = κ' d := rfl
theorem bnd_some (d hi : Nat) (i : Int) (κ' : Nat → Prop) : bndVC (some (.int i)) d hi κ' = (0 ≤ i ∧ i ≤ hi ∧ κ' i.toNat) := rfl
theorem len_sl (e k off len cap : Nat) : lenVC ⟨.sl e, s, b, z⟩ (.slice k off len cap) H n κ = κ (.int len) H n := rfl
theorem len_mp (kk e k : Nat) : lenVC ⟨.mp kk e, s, b, z⟩ (.mp k) H n κ = lenMB (hget H k) H n κ := rfl
theorem lenMB_mp (bv : Bool) (l : List (List Int × Int)) : lenMB (some (.mp bv l)) H n κ = κ (.int l.length) H n := rfl
theorem lk_mp (kk e k : Nat) (K : List Int) (ok : Bool) : lookupVC P τ ⟨.mp kk e, s, b, z⟩ (.mp k) (.arr K) ok H n κ = lookupB P τ kk e ok (hget H k) K H n κ := rfl
theorem lkB_mp (kk e : Nat) (bv ok : Bool) (l : List (List Int × Int)) (K : List Int) : lookupB P τ kk e ok (some (.mp bv l)) K H n κ = (KeyI P kk K.length ∧ keysOK l K.length ∧ (τ e).k ≠ .other ∧ (τ e).z = mz bv ∧ κ (lkRes bv ok l K) H n) := rfl
theorem lkR_t (bv : Bool) (l : List (List Int × Int)) (K : List Int) : lkRes bv true l K = .tup [mvS bv (mget l K), .bool (mhas l K)] := rfl
theorem lkR_f (bv : Bool) (l : List (List Int × Int)) (K : List Int) : lkRes bv false l K = mvS bv (mget l K) := rfl
theorem mvS_t (x : Int) : mvS true x = .bool (decide (x = 1)) := rfl
theorem mvS_f (x : Int) : mvS false x = .int x := rfl
theorem mz_t : mz true = .bool false := rfl
theorem mz_f : mz false = .int 0 := rfl
theorem mu_mp (kk e k : Nat) (K : List Int) (v : SV) : mapUpdateVC P m ⟨.mp kk e, s, b, z⟩ (.mp k) (.arr K) v H n κ = (m ≤ k ∧ updB P kk K k (hget H k) v H n κ) := rfl
theorem muB_t (kk : Nat) (K : List Int) (k : Nat) (l : List (List Int × Int)) (x : Bool) : updB P kk K k (some (.mp true l)) (.bool x) H n κ = (KeyI P kk K.length ∧ keysOK l K.length ∧ κ .und ((k, .mp true (mset l K (if x then 1 else 0))) :: H) n) := rfl
theorem muB_f (kk : Nat) (K : List Int) (k : Nat) (l : List (List Int × Int)) (x : Int) : updB P kk K k (some (.mp false l)) (.int x) H n κ = (KeyI P kk K.length ∧ keysOK l K.length ∧ κ .und ((k, .mp false (mset l K x)) :: H) n) := rfl
def mkB (k : Kd) (H : Heap) (n : Nat) (κ : K1) : Prop := match k with
  | .bool => κ (.mp n) ((n, .mp true []) :: H) (n + 1)
  | .int => κ (.mp n) ((n, .mp false []) :: H) (n + 1)
  | _ => False
theorem mk_mp (kk e : Nat) : makeMapVC τ ⟨.mp kk e, s, b, z⟩ H n κ = mkB (τ e).k H n κ := rfl
theorem mkB_t : mkB .bool H n κ = κ (.mp n) ((n, .mp true []) :: H) (n + 1) := rfl
theorem mkB_f : mkB .int H n κ = κ (.mp n) ((n, .mp false []) :: H) (n + 1) := rfl
theorem len_nils (e : Nat) : lenVC ⟨.sl e, s, b, z⟩ .nils H n κ = κ (.int 0) H n := rfl
theorem b_len (t : TypeId) (r : List TypeId) (x : SV) : builtinVC τ .len (t :: r).toArray [x] H n κ = lenVC (τ t) x H n κ := rfl
theorem b_min (ts : Array TypeId) (x y : Int) : builtinVC τ .min ts [.int x, .int y] H n κ = κ (.int (min x y)) H n := rfl
theorem b_max (ts : Array TypeId) (x y : Int) : builtinVC τ .max ts [.int x, .int y] H n κ = κ (.int (max x y)) H n := rfl
theorem new_int (x : Int) (e : Nat) : newVC (.int x) e H n κ = κ (.ptr n 0) ((n, .ints [x] e) :: H) (n + 1) := rfl
theorem new_arr (L : List Int) (e : Nat) : newVC (.arr L) e H n κ = κ (.ptr n 0) ((n, .ints L e) :: H) (n + 1) := rfl
theorem new_bool (x : Bool) (e : Nat) : newVC (.bool x) e H n κ = κ (.ptr n 0) ((n, .bls [x] e) :: H) (n + 1) := rfl
theorem new_barr (L : List Bool) (e : Nat) : newVC (.barr L) e H n κ = κ (.ptr n 0) ((n, .bls L e) :: H) (n + 1) := rfl
theorem new_ptr (k o e : Nat) : newVC (.ptr k o) e H n κ = κ (.ptr n 0) ((n, .cells [.ptr k o] e) :: H) (n + 1) := rfl
theorem new_slice (k o l c e : Nat) : newVC (.slice k o l c) e H n κ = κ (.ptr n 0) ((n, .cells [.slice k o l c] e) :: H) (n + 1) := rfl
theorem new_nils (e : Nat) : newVC .nils e H n κ = κ (.ptr n 0) ((n, .cells [.nils] e) :: H) (n + 1) := rfl
theorem new_mp (k e : Nat) : newVC (.mp k) e H n κ = κ (.ptr n 0) ((n, .cells [.mp k] e) :: H) (n + 1) := rfl
theorem new_stc (l : List SV) (e : Nat) : newVC (.stc l) e H n κ = (l.all oneCellS = true ∧ κ (.ptr n 0) ((n, .cells l e) :: H) (n + 1)) := by
  by_cases h : l.all oneCellS = true
  · have e1 : blockOf (.stc l) e = some (.cells l e) := if_pos h
    simp only [newVC, e1, h, true_and]
  · have e1 : blockOf (.stc l) e = none := if_neg h
    simp only [newVC, e1, h]
    simp
theorem new_fn (f : Nat) (caps : List SV) (e : Nat) : newVC (.fn f caps) e H n κ = κ (.ptr n 0) ((n, .cells [.fn f caps] e) :: H) (n + 1) := rfl
theorem store_ptr (d : TyD) (k off : Nat) (v : SV) : storeVC m d (.ptr k off) v H n κ = (m ≤ k ∧ d.k ≠ .other ∧ storeB d (hget H k) k off v H n κ) := rfl
theorem store_int (d : TyD) (L : List Int) (e k off : Nat) (x : Int) : storeB d (some (.ints L e)) k off (.int x) H n κ = (d.size = 1 ∧ off < L.length ∧ κ .und ((k, .ints (L.set off x) e) :: H) n) := rfl
theorem store_arr (d : TyD) (L : List Int) (e k off : Nat) (M : List Int) : storeB d (some (.ints L e)) k off (.arr M) H n κ = (M.length = d.size ∧ off + M.length ≤ L.length ∧ κ .und ((k, .ints (L.take off ++ M ++ L.drop (off + M.length)) e) :: H) n) := rfl
theorem store_bool (d : TyD) (L : List Bool) (e k off : Nat) (x : Bool) : storeB d (some (.bls L e)) k off (.bool x) H n κ = (d.size = 1 ∧ off < L.length ∧ κ .und ((k, .bls (L.set off x) e) :: H) n) := rfl
theorem store_cellsI (d : TyD) (l : List SV) (e k off : Nat) (x : Int) : storeB d (some (.cells l e)) k off (.int x) H n κ = (d.size = 1 ∧ off < l.length ∧ κ .und ((k, .cells (l.set off (.int x)) e) :: H) n) := by simp [storeB, oneCellS]
theorem store_cellsB (d : TyD) (l : List SV) (e k off : Nat) (x : Bool) : storeB d (some (.cells l e)) k off (.bool x) H n κ = (d.size = 1 ∧ off < l.length ∧ κ .und ((k, .cells (l.set off (.bool x)) e) :: H) n) := by simp [storeB, oneCellS]
theorem store_cellsP (d : TyD) (l : List SV) (e k off : Nat) (b1 o1 : Nat) : storeB d (some (.cells l e)) k off (.ptr b1 o1) H n κ = (d.size = 1 ∧ off < l.length ∧ κ .und ((k, .cells (l.set off (.ptr b1 o1)) e) :: H) n) := by simp [storeB, oneCellS]
theorem store_cellsL (d : TyD) (l : List SV) (e k off : Nat) (b1 o1 l1 c1 : Nat) : storeB d (some (.cells l e)) k off (.slice b1 o1 l1 c1) H n κ = (d.size = 1 ∧ off < l.length ∧ κ .und ((k, .cells (l.set off (.slice b1 o1 l1 c1)) e) :: H) n) := by simp [storeB, oneCellS]
theorem store_cellsN (d : TyD) (l : List SV) (e k off : Nat) : storeB d (some (.cells l e)) k off (.nils) H n κ = (d.size = 1 ∧ off < l.length ∧ κ .und ((k, .cells (l.set off (.nils)) e) :: H) n) := by simp [storeB, oneCellS]
theorem store_cellsF (d : TyD) (l : List SV) (e k off : Nat) (f1 : Nat) (cs : List SV) : storeB d (some (.cells l e)) k off (.fn f1 cs) H n κ = (d.size = 1 ∧ off < l.length ∧ κ .und ((k, .cells (l.set off (.fn f1 cs)) e) :: H) n) := by simp [storeB, oneCellS]
theorem store_cellsU (d : TyD) (l : List SV) (e k off : Nat) (k1 : IntKind) (x : Int) : storeB d (some (.cells l e)) k off (.lit (.int k1 x)) H n κ = (d.size = 1 ∧ off < l.length ∧ κ .und ((k, .cells (l.set off (.lit (.int k1 x))) e) :: H) n) := by simp [storeB, oneCellS, litOne]
theorem store_cellsM (d : TyD) (l : List SV) (e k off : Nat) (b1 : Nat) : storeB d (some (.cells l e)) k off (.mp b1) H n κ = (d.size = 1 ∧ off < l.length ∧ κ .und ((k, .cells (l.set off (.mp b1)) e) :: H) n) := by simp [storeB, oneCellS]
theorem store_cellsR (d : TyD) (l : List SV) (e k off : Nat) (M : List SV) : storeB d (some (.cells l e)) k off (.stc M) H n κ = (M.all oneCellS = true ∧ M.length = d.size ∧ off + M.length ≤ l.length ∧ κ .und ((k, .cells (l.take off ++ M ++ l.drop (off + M.length)) e) :: H) n) := rfl
end
theorem cut_zero (m off es : Nat) : cutOff m 0 off es = off := by simp [cutOff]
/-! Literals. -/
def bdM (o : Option (List Int)) (H : Heap) (n : Nat) (κ : K1) : Prop := match o with
  | some L => κ (.arr L) H n
  | none => False
theorem bdM_some (L : List Int) (H : Heap) (n : Nat) (κ : K1) : bdM (some L) H n κ = κ (.arr L) H n := rfl
def fillA (es : Nat) (Z : List Int) (l : List (Nat × SV)) : Option (List Int) := fillI (fun i => some (i * es, es)) Z l
def fillS (τ : Tys) (fs : List (Nat × Nat)) (Z : List Int) (l : List (Nat × SV)) : Option (List Int) := fillI (fun i => (fs[i]?).map fun x => (x.1, (τ x.2).size)) Z l
theorem bd_arr (τ : Tys) (k e s b : Nat) (Z : List Int) (parts : List (Nat × SV)) (H : Heap) (n : Nat) (κ : K1) : buildVC τ ⟨.arr k e, s, b, .arr Z⟩ parts H n κ = ((τ e).k ≠ .other ∧ bdM (fillA (τ e).size Z parts) H n κ) := rfl
theorem bd_str (τ : Tys) (fs : List (Nat × Nat)) (s b : Nat) (Z : List Int) (parts : List (Nat × SV)) (H : Heap) (n : Nat) (κ : K1) : buildVC τ ⟨.str fs, s, b, .arr Z⟩ parts H n κ = ((fs.all fun x => match (τ x.2).k with | .other => false | _ => true) = true ∧ bdM (fillS τ fs Z parts) H n κ) := rfl
theorem fA_nil (es : Nat) (Z : List Int) : fillA es Z [] = some Z := rfl
theorem fA_int (Z : List Int) (i : Nat) (x : Int) (r : List (Nat × SV)) : fillA 1 Z ((i, .int x) :: r) = if i < Z.length then fillA 1 (Z.set i x) r else none := by
  simp [fillA, fillI]
theorem fA_arr (es : Nat) (Z M : List Int) (i : Nat) (r : List (Nat × SV)) : fillA es Z ((i, .arr M) :: r) = if M.length = es ∧ i * es + M.length ≤ Z.length then fillA es (Z.take (i * es) ++ M ++ Z.drop (i * es + M.length)) r else none := by
  simp only [fillA]
  conv => lhs; unfold fillI
  split
  · rename_i h; cases h
  · rename_i h h2; cases h; cases h2; rfl
  · rename_i h; exact absurd rfl (h _ _ _ rfl)
theorem fS_nil (τ : Tys) (fs : List (Nat × Nat)) (Z : List Int) : fillS τ fs Z [] = some Z := rfl
def fSt (τ : Tys) (fs : List (Nat × Nat)) (Z : List Int) (v : SV) (r : List (Nat × SV)) (o : Option (Nat × Nat)) : Option (List Int) := match o, v with
  | some (off, 1), .int x => if off < Z.length then fillS τ fs (Z.set off x) r else none
  | some (off, s), .arr M => if M.length = s ∧ off + M.length ≤ Z.length then fillS τ fs (Z.take off ++ M ++ Z.drop (off + M.length)) r else none
  | _, _ => none
theorem fS_cons (τ : Tys) (fs : List (Nat × Nat)) (Z : List Int) (i : Nat) (v : SV) (r : List (Nat × SV)) : fillS τ fs Z ((i, v) :: r) = fSt τ fs Z v r ((fs[i]?).map fun x => (x.1, (τ x.2).size)) := by
  simp only [fillS]
  conv => lhs; unfold fillI
  unfold fSt
  rfl
theorem fSt_int (τ : Tys) (fs : List (Nat × Nat)) (Z : List Int) (x : Int) (r : List (Nat × SV)) (off : Nat) : fSt τ fs Z (.int x) r (some (off, 1)) = if off < Z.length then fillS τ fs (Z.set off x) r else none := rfl
theorem fSt_arr (τ : Tys) (fs : List (Nat × Nat)) (Z M : List Int) (r : List (Nat × SV)) (off s : Nat) : fSt τ fs Z (.arr M) r (some (off, s)) = if M.length = s ∧ off + M.length ≤ Z.length then fillS τ fs (Z.take off ++ M ++ Z.drop (off + M.length)) r else none := by
  unfold fSt
  split
  · rename_i h; cases h
  · rename_i h h2; cases h; cases h2; rfl
  · rename_i h; exact absurd rfl (h _ _ _ rfl)
/-! A struct of several kinds. -/
def bdT (o : Option (List SV)) (H : Heap) (n : Nat) (κ : K1) : Prop := match o with
  | some L => κ (.stc L) H n
  | none => False
theorem bdT_some (L : List SV) (H : Heap) (n : Nat) (κ : K1) : bdT (some L) H n κ = κ (.stc L) H n := rfl
def fillR (fs : List (Nat × Nat)) (Z : List SV) (l : List (Nat × SV)) : Option (List SV) := fillT (fun i => (fs[i]?).map fun x => x.1) Z l
theorem bd_stc (τ : Tys) (fs : List (Nat × Nat)) (s b : Nat) (Z : List SV) (parts : List (Nat × SV)) (H : Heap) (n : Nat) (κ : K1) : buildVC τ ⟨.str fs, s, b, .stc Z⟩ parts H n κ = (Z.all flat1 = true ∧ (fs.all fun x => match (τ x.2).k with | .other => false | _ => true) = true ∧ (fs.all fun x => (τ x.2).size == 1) = true ∧ bdT (fillR fs Z parts) H n κ) := rfl
theorem fR_nil (fs : List (Nat × Nat)) (Z : List SV) : fillR fs Z [] = some Z := rfl
def fRt (fs : List (Nat × Nat)) (Z : List SV) (v : SV) (r : List (Nat × SV)) (o : Option Nat) (c : Bool) : Option (List SV) := match o, c with
  | some off, true => if off < Z.length then fillR fs (Z.set off v) r else none
  | _, _ => none
theorem fR_cons (fs : List (Nat × Nat)) (Z : List SV) (i : Nat) (v : SV) (r : List (Nat × SV)) : fillR fs Z ((i, v) :: r) = fRt fs Z v r ((fs[i]?).map fun x => x.1) (oneCellS v) := by
  simp only [fillR]
  conv => lhs; unfold fillT
  unfold fRt
  rfl
theorem fRt_some (fs : List (Nat × Nat)) (Z : List SV) (v : SV) (r : List (Nat × SV)) (off : Nat) : fRt fs Z v r (some off) true = if off < Z.length then fillR fs (Z.set off v) r else none := rfl
theorem rep2_set (x y : Int) : ((List.replicate 2 (0 : Int)).set 0 x).set 1 y = [x, y] := rfl
theorem rep3_set (x y z : Int) : (((List.replicate 3 (0 : Int)).set 0 x).set 1 y).set 2 z = [x, y, z] := rfl
/-! Slices made. -/
def bsM (o : Option (List Int)) (len e : Nat) (H : Heap) (n : Nat) (κ : K1) : Prop := match o with
  | some L => κ (.slice n 0 len len) ((n, .ints L e) :: H) (n + 1)
  | none => False
theorem bsM_some (L : List Int) (len e : Nat) (H : Heap) (n : Nat) (κ : K1) : bsM (some L) len e H n κ = κ (.slice n 0 len len) ((n, .ints L e) :: H) (n + 1) := rfl
theorem bs_sl (τ : Tys) (e s b : Nat) (z : SV) (len : Nat) (parts : List (Nat × SV)) (H : Heap) (n : Nat) (κ : K1) : buildSliceVC τ ⟨.sl e, s, b, z⟩ len parts H n κ =
    ((τ e).k ≠ .other ∧ isZ (τ e).z (τ e).size = true ∧ 0 < (τ e).size ∧ len * (τ e).size ≤ 16777216 ∧ bsM (fillA (τ e).size (List.replicate (len * (τ e).size) 0) parts) len e H n κ) := rfl
def msM (z : SV) (s e : Nat) (x y : Int) (H : Heap) (n : Nat) (κ : K1) : Prop := match z with
  | .nils => s = 1 ∧ κ (.slice n 0 x.toNat y.toNat) ((n, .cells (List.replicate y.toNat .nils) e) :: H) (n + 1)
  | z => isZ z s = true ∧ κ (.slice n 0 x.toNat y.toNat) ((n, .ints (List.replicate (y.toNat * s) 0) e) :: H) (n + 1)
theorem msM_nils (s e : Nat) (x y : Int) (H : Heap) (n : Nat) (κ : K1) : msM .nils s e x y H n κ = (s = 1 ∧ κ (.slice n 0 x.toNat y.toNat) ((n, .cells (List.replicate y.toNat .nils) e) :: H) (n + 1)) := rfl
theorem msM_int (i : Int) (s e : Nat) (x y : Int) (H : Heap) (n : Nat) (κ : K1) : msM (.int i) s e x y H n κ = (isZ (.int i) s = true ∧ κ (.slice n 0 x.toNat y.toNat) ((n, .ints (List.replicate (y.toNat * s) 0) e) :: H) (n + 1)) := rfl
theorem msM_arr (L : List Int) (s e : Nat) (x y : Int) (H : Heap) (n : Nat) (κ : K1) : msM (.arr L) s e x y H n κ = (isZ (.arr L) s = true ∧ κ (.slice n 0 x.toNat y.toNat) ((n, .ints (List.replicate (y.toNat * s) 0) e) :: H) (n + 1)) := rfl
theorem ms_sl (τ : Tys) (e s b : Nat) (z : SV) (x y : Int) (H : Heap) (n : Nat) (κ : K1) : makeSliceVC τ ⟨.sl e, s, b, z⟩ (.int x) (.int y) H n κ =
    ((τ e).k ≠ .other ∧ 0 < (τ e).size ∧ 0 ≤ x ∧ x ≤ y ∧ y ≤ 9223372036854775807 ∧ (τ e).bytes * y ≤ 140737488355328 ∧ msM (τ e).z (τ e).size e x y H n κ) := rfl
theorem isZ_int : isZ (.int 0) 1 = true := rfl
theorem isZ_arr (s : Nat) : isZ (.arr (List.replicate s 0)) s = true := by simp [isZ]
def srcB (es : Nat) (o : Option SObj) (off len : Nat) (κ : List Int → Nat → Prop) : Prop := match o with
  | some (.ints L _) => 0 < len ∧ off + len * es ≤ L.length ∧ κ ((L.drop off).take (len * es)) len
  | _ => False
theorem src_sl (es b off len cap : Nat) (H : Heap) (κ : List Int → Nat → Prop) : srcVC es (.slice b off len cap) H κ = srcB es (hget H b) off len κ := by
  simp only [srcVC, srcB]
  rcases hget H b with _ | o
  · rfl
  · cases o <;> rfl
theorem srcB_ints (es : Nat) (L : List Int) (e off len : Nat) (κ : List Int → Nat → Prop) : srcB es (some (.ints L e)) off len κ = (0 < len ∧ off + len * es ≤ L.length ∧ κ ((L.drop off).take (len * es)) len) := rfl
theorem srcE_zero (b o c : Nat) : srcE (.slice b o 0 c) = true := rfl
theorem srcE_one (b o c : Nat) : srcE (.slice b o 1 c) = false := rfl
theorem srcE_succ (b o k c : Nat) : srcE (.slice b o (k + 1) c) = false := rfl
theorem srcE_nils : srcE .nils = true := rfl
theorem ap_nils (τ : Tys) (m e s b : Nat) (z x : SV) (H : Heap) (n : Nat) (κ : K1) (hx : srcE x = false) : appendVC τ m ⟨.sl e, s, b, z⟩ .nils x H n κ = ((τ e).k ≠ .other ∧ isZ (τ e).z (τ e).size = true ∧ 0 < (τ e).size ∧
    srcVC (τ e).size x H fun news k => k * (τ e).bytes ≤ 140737488355328 ∧ k ≤ 9223372036854775807 ∧ ∀ (junk : List Int) (cap : Nat), junk.length + k * (τ e).size = cap * (τ e).size → κ (.slice n 0 k cap) ((n, .ints (news ++ junk) e) :: H) (n + 1)) := by
  unfold appendVC
  simp only [hx]
theorem ap_e_nils (τ : Tys) (m e s b : Nat) (z x : SV) (H : Heap) (n : Nat) (κ : K1) (hx : srcE x = true) : appendVC τ m ⟨.sl e, s, b, z⟩ .nils x H n κ = ((τ e).k ≠ .other ∧ isZ (τ e).z (τ e).size = true ∧ 0 < (τ e).size ∧ κ .nils H n) := by
  unfold appendVC
  simp only [hx, keepVC]
theorem ap_e_sl (τ : Tys) (m e s b0 : Nat) (z : SV) (b len cap : Nat) (x : SV) (H : Heap) (n : Nat) (κ : K1) (hx : srcE x = true) : appendVC τ m ⟨.sl e, s, b0, z⟩ (.slice b 0 len cap) x H n κ = ((τ e).k ≠ .other ∧ isZ (τ e).z (τ e).size = true ∧ 0 < (τ e).size ∧ len ≤ cap ∧ κ (.slice b 0 len cap) H n) := by
  unfold appendVC
  simp only [hx, keepVC]
def apB (τ : Tys) (m e b len cap : Nat) (o : Option SObj) (x : SV) (H : Heap) (n : Nat) (κ : K1) : Prop := match o with
  | some (.ints L e') => m ≤ b ∧ e' = e ∧ L.length = cap * (τ e).size ∧ len ≤ cap ∧ srcVC (τ e).size x H fun news k => (len + k) * (τ e).bytes ≤ 140737488355328 ∧ len + k ≤ 9223372036854775807 ∧
      ∀ (junk : List Int) (cap' : Nat), junk.length + (len + k) * (τ e).size = cap' * (τ e).size → κ (.slice n 0 (len + k) cap') ((n, .ints (L.take (len * (τ e).size) ++ news ++ junk) e) :: (b, .dead) :: H) (n + 1)
  | _ => False
theorem ap_sl (τ : Tys) (m e s b0 : Nat) (z : SV) (b len cap : Nat) (x : SV) (H : Heap) (n : Nat) (κ : K1) (hx : srcE x = false) : appendVC τ m ⟨.sl e, s, b0, z⟩ (.slice b 0 len cap) x H n κ = ((τ e).k ≠ .other ∧ isZ (τ e).z (τ e).size = true ∧ 0 < (τ e).size ∧ apB τ m e b len cap (hget H b) x H n κ) := by
  simp only [appendVC, apB, hx]
  rcases hget H b with _ | o
  · rfl
  · cases o <;> rfl
theorem apB_ints (τ : Tys) (m e b len cap : Nat) (L : List Int) (e' : Nat) (x : SV) (H : Heap) (n : Nat) (κ : K1) : apB τ m e b len cap (some (.ints L e')) x H n κ = (m ≤ b ∧ e' = e ∧ L.length = cap * (τ e).size ∧ len ≤ cap ∧ srcVC (τ e).size x H fun news k => (len + k) * (τ e).bytes ≤ 140737488355328 ∧ len + k ≤ 9223372036854775807 ∧
      ∀ (junk : List Int) (cap' : Nat), junk.length + (len + k) * (τ e).size = cap' * (τ e).size → κ (.slice n 0 (len + k) cap') ((n, .ints (L.take (len * (τ e).size) ++ news ++ junk) e) :: (b, .dead) :: H) (n + 1)) := rfl
def clB (m b off k : Nat) (len : Nat) (o : Option SObj) (H : Heap) (n : Nat) (κ : K1) : Prop := match o with
  | some (.ints L e') => m ≤ b ∧ 0 < len ∧ off + k ≤ L.length ∧ κ (.tup []) ((b, .ints (L.take off ++ List.replicate k 0 ++ L.drop (off + k)) e') :: H) n
  | _ => False
theorem cl_sl (τ : Tys) (m e s b0 : Nat) (z : SV) (b off len cap : Nat) (H : Heap) (n : Nat) (κ : K1) : clearVC τ m ⟨.sl e, s, b0, z⟩ (.slice b off len cap) H n κ = ((τ e).k ≠ .other ∧ isZ (τ e).z (τ e).size = true ∧ 0 < (τ e).size ∧ clB m b off (len * (τ e).size) len (hget H b) H n κ) := by
  simp only [clearVC, clB]
  rcases hget H b with _ | o
  · rfl
  · cases o <;> rfl
theorem clB_ints (m b off k len : Nat) (L : List Int) (e' : Nat) (H : Heap) (n : Nat) (κ : K1) : clB m b off k len (some (.ints L e')) H n κ = (m ≤ b ∧ 0 < len ∧ off + k ≤ L.length ∧ κ (.tup []) ((b, .ints (L.take off ++ List.replicate k 0 ++ L.drop (off + k)) e') :: H) n) := rfl

/-! Regions whose stores go into holes. -/
section
variable (X : Cx) (all : Array Oper) (rest : List Oper) (S : Env) (H : Heap) (n : Nat) (K : KR) (κ : K1)
def restH (d : Option Tmp) : K1 := fun v H n => opsVH X all rest (sput S d v) H n K
theorem oh_nil : opsVH X all [] S H n K = K S H n := rfl
theorem oh_run (d : Option Tmp) (op : Op) (ty : TypeId) (pos : String) (af : Array Edge) : opsVH X all (⟨d, op, ty, pos, af, none⟩ :: rest) S H n K = opHVC X op S H n (restH X all rest S K d) := rfl
theorem resth_eq (d : Option Tmp) (v : SV) (H' : Heap) (n' : Nat) : restH X all rest S K d v H' n' = opsVH X all rest (sput S d v) H' n' K := rfl
def ghRun (op : Op) (d : Option Tmp) : Unit → Prop := fun _ => opHVC X op S H n (restH X all rest S K d)
def ghSkip (d : Option Tmp) : Unit → Prop := fun _ => opsVH X all rest (sput S d .und) H n K
theorem ghRun_eq (op : Op) (d : Option Tmp) : ghRun X all rest S H n K op d () = opHVC X op S H n (restH X all rest S K d) := rfl
theorem ghSkip_eq (d : Option Tmp) : ghSkip X all rest S H n K d () = opsVH X all rest (sput S d .und) H n K := rfl
def ghB (v : SV) (t : Nat) (want : Bool) (op : Op) (d : Option Tmp) : Prop := match v with
  | .bool c => match want with
    | true => bSplit c (ghRun X all rest ((t, .bool true) :: S) H n K op d) (ghSkip X all rest ((t, .bool false) :: S) H n K d)
    | false => bSplit c (ghSkip X all rest ((t, .bool true) :: S) H n K d) (ghRun X all rest ((t, .bool false) :: S) H n K op d)
  | .und => opsVH X all rest (sput S d .und) H n K
  | _ => False
theorem ghB_t (c : Bool) (t : Nat) (op : Op) (d : Option Tmp) : ghB X all rest S H n K (.bool c) t true op d = bSplit c (ghRun X all rest ((t, .bool true) :: S) H n K op d) (ghSkip X all rest ((t, .bool false) :: S) H n K d) := rfl
theorem ghB_f (c : Bool) (t : Nat) (op : Op) (d : Option Tmp) : ghB X all rest S H n K (.bool c) t false op d = bSplit c (ghSkip X all rest ((t, .bool true) :: S) H n K d) (ghRun X all rest ((t, .bool false) :: S) H n K op d) := rfl
theorem ghB_und (t : Nat) (want : Bool) (op : Op) (d : Option Tmp) : ghB X all rest S H n K .und t want op d = opsVH X all rest (sput S d .und) H n K := rfl
def ghT (t : Option Tmp) (want : Bool) (op : Op) (d : Option Tmp) : Prop := match t with
  | some t => ghB X all rest S H n K (sget S t) t want op d
  | none => False
theorem ghT_some (t : Nat) (want : Bool) (op : Op) (d : Option Tmp) : ghT X all rest S H n K (some t) want op d = ghB X all rest S H n K (sget S t) t want op d := rfl
theorem oh_guard (l : List Oper) (d : Option Tmp) (op : Op) (ty : TypeId) (pos : String) (af : Array Edge) (j : Nat) (want : Bool) :
    opsVH X l.toArray (⟨d, op, ty, pos, af, some (j, want)⟩ :: rest) S H n K = ghT X l.toArray rest S H n K (dstAt l j) want op d := by
  conv => lhs; unfold opsVH
  simp only [dstAt, ghT, List.getElem?_toArray]
  cases hq : (l[j]?).bind (·.dst) with
  | none => rfl
  | some t =>
    simp only
    unfold ghB
    cases hs : sget S t with
    | bool c => cases want <;> cases c <;> simp [bSplit, ghRun, ghSkip] <;> rfl
    | _ => rfl
end
section
variable (X : Cx) (S : Env) (H : Heap) (n : Nat) (κ : K1)
theorem h_move (x : Operand) : opHVC X (.move x) S H n κ = opVC X true (.move x) S H n κ := rfl
theorem h_assign (x : Operand) : opHVC X (.assign x) S H n κ = opVC X true (.assign x) S H n κ := rfl
theorem h_pick (c a b : Operand) : opHVC X (.pick c a b) S H n κ = opVC X true (.pick c a b) S H n κ := rfl
theorem h_binOp (o : BinOp) (t : TypeId) (x y : Operand) (u : TypeId) : opHVC X (.binOp o t x y u) S H n κ = opVC X true (.binOp o t x y u) S H n κ := rfl
theorem h_unOp (o : UnOp) (t : TypeId) (x : Operand) : opHVC X (.unOp o t x) S H n κ = opVC X true (.unOp o t x) S H n κ := rfl
theorem h_extract (x : Operand) (i : Nat) : opHVC X (.extract x i) S H n κ = opVC X true (.extract x i) S H n κ := rfl
theorem h_fieldAddr (t : TypeId) (x : Operand) (f : Nat) : opHVC X (.fieldAddr t x f) S H n κ = opVC X true (.fieldAddr t x f) S H n κ := rfl
theorem h_field (t : TypeId) (x : Operand) (f : Nat) : opHVC X (.field t x f) S H n κ = opVC X true (.field t x f) S H n κ := rfl
theorem h_indexAddr (t : TypeId) (x i : Operand) : opHVC X (.indexAddr t x i) S H n κ = opVC X true (.indexAddr t x i) S H n κ := rfl
theorem h_index (t : TypeId) (x i : Operand) : opHVC X (.index t x i) S H n κ = opVC X true (.index t x i) S H n κ := rfl
theorem h_slice (t : TypeId) (x : Operand) (a b c : Option Operand) : opHVC X (.slice t x a b c) S H n κ = opVC X true (.slice t x a b c) S H n κ := rfl
theorem h_load (t : TypeId) (x : Operand) : opHVC X (.load t x) S H n κ = opVC X true (.load t x) S H n κ := rfl
theorem h_call (c : Call) : opHVC X (.call c) S H n κ = opVC X true (.call c) S H n κ := rfl
theorem h_store (t : TypeId) (x y : Operand) : opHVC X (.store t x y) S H n κ = storeHVC X.m (X.τ t) (ev S x) (ev S y) H n κ := rfl
theorem h_alloc (e : TypeId) : opHVC X (.alloc e) S H n κ = allocHVC (X.τ e) e H n κ := rfl
end
def sthB (d : TyD) (o : Option SObj) (b : Nat) (v : SV) (H : Heap) (n : Nat) (κ : K1) : Prop := match o with
  | some (.hole k e) => d.size = k ∧ match blockOf v e with
    | some o' => objSize o' = some (k, e) ∧ κ .und ((b, o') :: H) n
    | none => False
  | _ => False
theorem sth_ptr (m : Nat) (d : TyD) (b : Nat) (v : SV) (H : Heap) (n : Nat) (κ : K1) : storeHVC m d (.ptr b 0) v H n κ = (m ≤ b ∧ d.k ≠ .other ∧ sthB d (hget H b) b v H n κ) := by
  simp only [storeHVC, sthB]
  rcases hget H b with _ | o
  · rfl
  · cases o <;> rfl
theorem sth_arr (d : TyD) (k e b : Nat) (L : List Int) (H : Heap) (n : Nat) (κ : K1) : sthB d (some (.hole k e)) b (.arr L) H n κ = (d.size = k ∧ L.length = k ∧ κ .und ((b, .ints L e) :: H) n) := by simp [sthB, blockOf, objSize]
theorem sth_int (d : TyD) (k e b : Nat) (x : Int) (H : Heap) (n : Nat) (κ : K1) : sthB d (some (.hole k e)) b (.int x) H n κ = (d.size = k ∧ 1 = k ∧ κ .und ((b, .ints [x] e) :: H) n) := by simp [sthB, blockOf, objSize]
theorem ah_int (s b e : Nat) (k : Kd) (x : Int) (H : Heap) (n : Nat) (κ : K1) : allocHVC ⟨k, s, b, .int x⟩ e H n κ = (k ≠ .other ∧ κ (.ptr n 0) ((n, .hole 1 e) :: H) (n + 1)) := by simp [allocHVC, blockOf, objSize, flat]
theorem ah_arr (s b e : Nat) (k : Kd) (L : List Int) (H : Heap) (n : Nat) (κ : K1) : allocHVC ⟨k, s, b, .arr L⟩ e H n κ = (k ≠ .other ∧ κ (.ptr n 0) ((n, .hole L.length e) :: H) (n + 1)) := by simp [allocHVC, blockOf, objSize, flat]
theorem sH_nil (S : Env) (H : Heap) (κ : Heap → Prop) : startH [] S H κ = κ H := rfl
def sHO (ts : List Nat) (S : Env) (H : Heap) (κ : Heap → Prop) (b : Nat) (o : Option SObj) : Prop := match o with
  | some o => match objSize o with
    | some (k, e) => startH ts S ((b, .hole k e) :: H) κ
    | none => False
  | none => False
def sHB (ts : List Nat) (S : Env) (H : Heap) (κ : Heap → Prop) (v : SV) : Prop := match v with
  | .ptr b 0 => sHO ts S H κ b (hget H b)
  | _ => False
theorem sH_cons (t : Nat) (ts : List Nat) (S : Env) (H : Heap) (κ : Heap → Prop) : startH (t :: ts) S H κ = sHB ts S H κ (sget S t) := by
  conv => lhs; unfold startH
  unfold sHB sHO
  rfl
theorem sHB_ptr (ts : List Nat) (S : Env) (H : Heap) (κ : Heap → Prop) (b : Nat) : sHB ts S H κ (.ptr b 0) = sHO ts S H κ b (hget H b) := rfl
theorem sHO_ints (ts : List Nat) (S : Env) (H : Heap) (κ : Heap → Prop) (b : Nat) (L : List Int) (e : Nat) : sHO ts S H κ b (some (.ints L e)) = startH ts S ((b, .hole L.length e) :: H) κ := rfl
theorem sHO_bls (ts : List Nat) (S : Env) (H : Heap) (κ : Heap → Prop) (b : Nat) (L : List Bool) (e : Nat) : sHO ts S H κ b (some (.bls L e)) = startH ts S ((b, .hole L.length e) :: H) κ := rfl
/-! The equations in three bundles. -/
theorem SB : type_of% (
  And.intro @bs_true <|
  And.intro @bs_false <|
  And.intro @bs_not <|
  And.intro @bs_dec <|
  And.intro @codeU_eq <|
  And.intro @cv_skip <|
  And.intro @cv_region <|
  And.intro @regB_none <|
  And.intro @endK_eq <|
  And.intro @regB_some <|
  And.intro @regB_tree <|
  And.intro @jk <|
  And.intro @treeK_eq <|
  And.intro @tv_done <|
  And.intro @tv_stop <|
  And.intro @opAt_some <|
  And.intro @tv_one <|
  And.intro @tv_alt <|
  And.intro @o_insert <|
  And.intro @cv_seq <|
  And.intro @condB_bool <|
  And.intro @cv_cond <|
  And.intro @cv_block <|
  And.intro @cv_exit <|
  And.intro @cv_ret <|
  And.intro @sk_normal <|
  And.intro @sk_exit <|
  And.intro @sk_ret <|
  And.intro @bk_normal <|
  And.intro @bk_exit <|
  And.intro @bk_ret <|
  And.intro @nk <|
  And.intro @lk_exit <|
  And.intro @lk_ret <|
  And.intro @rk_normal <|
  And.intro @rk_ret <|
  And.intro @rv_nil <|
  And.intro @rv_tmp <|
  And.intro @rvK_eq <|
  And.intro @rv_cell <|
  And.intro @ov_nil <|
  And.intro @ov_run <|
  And.intro @rest_eq <|
  And.intro @gdRun_eq <|
  And.intro @gdSkip_eq <|
  And.intro @gdB_t <|
  And.intro @gdB_f <|
  And.intro @gdB_und <|
  And.intro @gdT_some <|
  And.intro @ov_guard <|
  And.intro @sget_cons <|
  And.intro @sput_some <|
  And.intro @sput_none <|
  And.intro @tl_cons <|
  And.intro @tl_nil <|
  And.intro @ev_tmp <|
  And.intro @ev_func <|
  And.intro @ev_int <|
  And.intro @ev_bool <|
  And.intro @hv_none <|
  And.intro @hv_some <|
  And.intro @ev_nils <|
  And.intro @ev_agg <|
  And.intro @o_move <|
  And.intro @o_assign <|
  And.intro @o_pick <|
  And.intro @o_load <|
  And.intro @o_bin <|
  And.intro @o_conv <|
  And.intro @o_un <|
  And.intro @o_extract <|
  And.intro @o_makeFunc <|
  And.intro @o_fieldAddr <|
  And.intro @o_field <|
  And.intro @o_nilCheck <|
  And.intro @o_indexAddr <|
  And.intro @o_index <|
  And.intro @o_lookup <|
  And.intro @o_mapUpdate <|
  And.intro @o_makeMap <|
  And.intro @o_slice <|
  And.intro @o_build <|
  And.intro @o_len <|
  And.intro @o_min <|
  And.intro @o_max <|
  And.intro @o_append <|
  And.intro @o_clear <|
  And.intro @o_alloc <|
  And.intro @o_box <|
  And.intro @o_store <|
  And.intro @o_buildSlice <|
  And.intro @o_makeSlice <|
  And.intro @o_call <|
  And.intro @o_callD <|
  And.intro @isIn_nil <|
  And.intro @isIn_cons <|
  And.intro @isIn_tmp <|
  And.intro @call_fn <|
  And.intro @callPG_some <|
  And.intro @callPG_none <|
  And.intro @callG_some <|
  And.intro @resP_some <|
  And.intro @cellM_some <|
  And.intro @pickU_eq <|
  And.intro @pick_bool <|
  And.intro @load_ptr <|
  And.intro @load_int <|
  And.intro @load_arr <|
  And.intro @load_str <|
  And.intro @load_wint <|
  And.intro @load_warr <|
  And.intro @load_wstr <|
  And.intro @load_bool <|
  And.intro @load_cellsI <|
  And.intro @load_cellsB <|
  And.intro @load_cellsL <|
  And.intro @load_cellsM <|
  And.intro @load_cellsS <|
  And.intro @load_cellsU <|
  And.intro @load_winU <|
  And.intro @load_cellsR <|
  And.intro @bin_ii <|
  And.intro @i_add <|
  And.intro @i_sub <|
  And.intro @i_mul <|
  And.intro @i_quo <|
  And.intro @i_rem <|
  And.intro @i_eql <|
  And.intro @i_neq <|
  And.intro @i_lss <|
  And.intro @i_leq <|
  And.intro @i_gtr <|
  And.intro @i_geq <|
  And.intro @ar_t <|
  And.intro @ar_f <|
  And.intro @bin_ll <|
  And.intro @bin_li <|
  And.intro @n_add <|
  And.intro @n_sub <|
  And.intro @n_mul <|
  And.intro @n_and <|
  And.intro @n_xor <|
  And.intro @n_shr <|
  And.intro @cv_int <|
  And.intro @cv_lit <|
  And.intro @ci_int <|
  And.intro @ci_num <|
  And.intro @ev_u64 <|
  And.intro @ev_u8 <|
  And.intro @bin_bb_eql <|
  And.intro @bin_bb_neq <|
  And.intro @bin_aa_eql <|
  And.intro @bin_aa_neq <|
  And.intro @un_not <|
  And.intro @un_neg <|
  And.intro @extract_zero <|
  And.intro @extract_succ <|
  And.intro @makeFunc_func <|
  And.intro @fa_str <|
  And.intro @f_str <|
  And.intro @f_stc <|
  And.intro @nil_ptr <|
  And.intro @part_int <|
  And.intro @part_arr <|
  And.intro @part_str <|
  And.intro @ia_arr <|
  And.intro @ia_sl <|
  And.intro @ix_arr <|
  And.intro @sl_arr <|
  And.intro @sl_sl <|
  And.intro @sl_nils <|
  And.intro @bnd_none <|
  And.intro @bnd_some <|
  And.intro @len_sl <|
  And.intro @len_mp <|
  And.intro @lenMB_mp <|
  And.intro @lk_mp <|
  And.intro @lkB_mp <|
  And.intro @lkR_t <|
  And.intro @lkR_f <|
  And.intro @mvS_t <|
  And.intro @mvS_f <|
  And.intro @mz_t <|
  And.intro @mz_f <|
  And.intro @mu_mp <|
  And.intro @muB_t <|
  And.intro @muB_f <|
  And.intro @mk_mp <|
  And.intro @mkB_t <|
  And.intro @mkB_f <|
  And.intro @len_nils <|
  And.intro @b_len <|
  And.intro @b_min <|
  And.intro @b_max <|
  And.intro @new_int <|
  And.intro @new_arr <|
  And.intro @new_bool <|
  And.intro @new_barr <|
  And.intro @new_ptr <|
  And.intro @new_slice <|
  And.intro @new_nils <|
  And.intro @new_mp <|
  And.intro @new_stc <|
  And.intro @new_fn <|
  And.intro @store_ptr <|
  And.intro @store_int <|
  And.intro @store_arr <|
  And.intro @store_bool <|
  And.intro @store_cellsI <|
  And.intro @store_cellsB <|
  And.intro @store_cellsP <|
  And.intro @store_cellsL <|
  And.intro @store_cellsN <|
  And.intro @store_cellsF <|
  And.intro @store_cellsU <|
  And.intro @store_cellsM <|
  And.intro @store_cellsR <|
  And.intro @cut_zero <|
  And.intro @bdM_some <|
  And.intro @bd_arr <|
  And.intro @bd_str <|
  And.intro @fA_nil <|
  And.intro @fA_int <|
  And.intro @fA_arr <|
  And.intro @fS_nil <|
  And.intro @fS_cons <|
  And.intro @fSt_int <|
  And.intro @fSt_arr <|
  And.intro @bdT_some <|
  And.intro @bd_stc <|
  And.intro @fR_nil <|
  And.intro @fR_cons <|
  And.intro @fRt_some <|
  And.intro @rep2_set <|
  And.intro @rep3_set <|
  And.intro @bsM_some <|
  And.intro @bs_sl <|
  And.intro @msM_nils <|
  And.intro @msM_int <|
  And.intro @msM_arr <|
  And.intro @ms_sl <|
  And.intro @isZ_int <|
  And.intro @isZ_arr <|
  And.intro @src_sl <|
  And.intro @srcB_ints <|
  And.intro @srcE_zero <|
  And.intro @srcE_one <|
  And.intro @srcE_succ <|
  And.intro @srcE_nils <|
  And.intro @ap_nils <|
  And.intro @ap_e_nils <|
  And.intro @ap_e_sl <|
  And.intro @ap_sl <|
  And.intro @apB_ints <|
  And.intro @cl_sl <|
  And.intro @clB_ints <|
  And.intro @oh_nil <|
  And.intro @oh_run <|
  And.intro @resth_eq <|
  And.intro @ghRun_eq <|
  And.intro @ghSkip_eq <|
  And.intro @ghB_t <|
  And.intro @ghB_f <|
  And.intro @ghB_und <|
  And.intro @ghT_some <|
  And.intro @oh_guard <|
  And.intro @h_move <|
  And.intro @h_assign <|
  And.intro @h_pick <|
  And.intro @h_binOp <|
  And.intro @h_unOp <|
  And.intro @h_extract <|
  And.intro @h_fieldAddr <|
  And.intro @h_field <|
  And.intro @h_indexAddr <|
  And.intro @h_index <|
  And.intro @h_slice <|
  And.intro @h_load <|
  And.intro @h_call <|
  And.intro @h_store <|
  And.intro @h_alloc <|
  And.intro @sth_ptr <|
  And.intro @sth_arr <|
  And.intro @sth_int <|
  And.intro @ah_int <|
  And.intro @ah_arr <|
  And.intro @sH_nil <|
  And.intro @sH_cons <|
  And.intro @sHB_ptr <|
  And.intro @sHO_ints <|
  And.intro @sHO_bls <|
  And.intro @dstAt_zero <|
  And.intro @dstAt_succ <|
  And.intro @hget_cons <|
  And.intro @List.map_cons.{0, 0} <|
  And.intro @List.map_nil.{0, 0} <|
  And.intro @List.all_cons.{0} <|
  And.intro @List.all_nil.{0} <|
  And.intro @List.reverse_cons.{0} <|
  And.intro @List.reverse_nil.{0} <|
  And.intro @List.nil_append.{0} <|
  And.intro @List.cons_append.{0} <|
  And.intro @List.append_nil.{0} <|
  And.intro @Option.map_some.{0, 0} <|
  And.intro @Option.map_none.{0, 0} <|
  And.intro @Bool.and_true <|
  And.intro @Bool.true_and <|
  And.intro @Bool.and_self <|
  And.intro @true_and <|
  And.intro @and_true <|
  And.intro @not_false_eq_true <|
  And.intro @Nat.zero_add <|
  And.intro @Nat.add_zero <|
  And.intro @Nat.succ_ne_self <|
  And.intro @List.getElem?_cons_zero.{0} <|
  And.intro @List.getElem?_cons_succ.{0} <|
  And.intro @SV.int.injEq <|
  And.intro @SV.bool.injEq <|
  And.intro @SV.arr.injEq <|
  And.intro @SV.tup.injEq <|
  And.intro @List.cons.injEq.{0} <|
  And.intro @Nat.le_refl <|
  And.intro @Nat.zero_le <|
  And.intro @Nat.one_ne_zero <|
  And.intro @List.drop_zero.{0} <|
  And.intro @beq_self_eq_true.{0} <|
  And.intro @List.set_cons_zero.{0} <|
  And.intro @List.set_cons_succ.{0} <|
  And.intro @List.drop_succ_cons.{0} <|
  And.intro @List.drop_nil.{0} <|
  And.intro @Bool.not_true <|
  And.intro @Bool.not_false <|
  And.intro @decide_true <|
  And.intro @decide_false <| @decide_eq_true_eq) :=
  And.intro @bs_true <|
  And.intro @bs_false <|
  And.intro @bs_not <|
  And.intro @bs_dec <|
  And.intro @codeU_eq <|
  And.intro @cv_skip <|
  And.intro @cv_region <|
  And.intro @regB_none <|
  And.intro @endK_eq <|
  And.intro @regB_some <|
  And.intro @regB_tree <|
  And.intro @jk <|
  And.intro @treeK_eq <|
  And.intro @tv_done <|
  And.intro @tv_stop <|
  And.intro @opAt_some <|
  And.intro @tv_one <|
  And.intro @tv_alt <|
  And.intro @o_insert <|
  And.intro @cv_seq <|
  And.intro @condB_bool <|
  And.intro @cv_cond <|
  And.intro @cv_block <|
  And.intro @cv_exit <|
  And.intro @cv_ret <|
  And.intro @sk_normal <|
  And.intro @sk_exit <|
  And.intro @sk_ret <|
  And.intro @bk_normal <|
  And.intro @bk_exit <|
  And.intro @bk_ret <|
  And.intro @nk <|
  And.intro @lk_exit <|
  And.intro @lk_ret <|
  And.intro @rk_normal <|
  And.intro @rk_ret <|
  And.intro @rv_nil <|
  And.intro @rv_tmp <|
  And.intro @rvK_eq <|
  And.intro @rv_cell <|
  And.intro @ov_nil <|
  And.intro @ov_run <|
  And.intro @rest_eq <|
  And.intro @gdRun_eq <|
  And.intro @gdSkip_eq <|
  And.intro @gdB_t <|
  And.intro @gdB_f <|
  And.intro @gdB_und <|
  And.intro @gdT_some <|
  And.intro @ov_guard <|
  And.intro @sget_cons <|
  And.intro @sput_some <|
  And.intro @sput_none <|
  And.intro @tl_cons <|
  And.intro @tl_nil <|
  And.intro @ev_tmp <|
  And.intro @ev_func <|
  And.intro @ev_int <|
  And.intro @ev_bool <|
  And.intro @hv_none <|
  And.intro @hv_some <|
  And.intro @ev_nils <|
  And.intro @ev_agg <|
  And.intro @o_move <|
  And.intro @o_assign <|
  And.intro @o_pick <|
  And.intro @o_load <|
  And.intro @o_bin <|
  And.intro @o_conv <|
  And.intro @o_un <|
  And.intro @o_extract <|
  And.intro @o_makeFunc <|
  And.intro @o_fieldAddr <|
  And.intro @o_field <|
  And.intro @o_nilCheck <|
  And.intro @o_indexAddr <|
  And.intro @o_index <|
  And.intro @o_lookup <|
  And.intro @o_mapUpdate <|
  And.intro @o_makeMap <|
  And.intro @o_slice <|
  And.intro @o_build <|
  And.intro @o_len <|
  And.intro @o_min <|
  And.intro @o_max <|
  And.intro @o_append <|
  And.intro @o_clear <|
  And.intro @o_alloc <|
  And.intro @o_box <|
  And.intro @o_store <|
  And.intro @o_buildSlice <|
  And.intro @o_makeSlice <|
  And.intro @o_call <|
  And.intro @o_callD <|
  And.intro @isIn_nil <|
  And.intro @isIn_cons <|
  And.intro @isIn_tmp <|
  And.intro @call_fn <|
  And.intro @callPG_some <|
  And.intro @callPG_none <|
  And.intro @callG_some <|
  And.intro @resP_some <|
  And.intro @cellM_some <|
  And.intro @pickU_eq <|
  And.intro @pick_bool <|
  And.intro @load_ptr <|
  And.intro @load_int <|
  And.intro @load_arr <|
  And.intro @load_str <|
  And.intro @load_wint <|
  And.intro @load_warr <|
  And.intro @load_wstr <|
  And.intro @load_bool <|
  And.intro @load_cellsI <|
  And.intro @load_cellsB <|
  And.intro @load_cellsL <|
  And.intro @load_cellsM <|
  And.intro @load_cellsS <|
  And.intro @load_cellsU <|
  And.intro @load_winU <|
  And.intro @load_cellsR <|
  And.intro @bin_ii <|
  And.intro @i_add <|
  And.intro @i_sub <|
  And.intro @i_mul <|
  And.intro @i_quo <|
  And.intro @i_rem <|
  And.intro @i_eql <|
  And.intro @i_neq <|
  And.intro @i_lss <|
  And.intro @i_leq <|
  And.intro @i_gtr <|
  And.intro @i_geq <|
  And.intro @ar_t <|
  And.intro @ar_f <|
  And.intro @bin_ll <|
  And.intro @bin_li <|
  And.intro @n_add <|
  And.intro @n_sub <|
  And.intro @n_mul <|
  And.intro @n_and <|
  And.intro @n_xor <|
  And.intro @n_shr <|
  And.intro @cv_int <|
  And.intro @cv_lit <|
  And.intro @ci_int <|
  And.intro @ci_num <|
  And.intro @ev_u64 <|
  And.intro @ev_u8 <|
  And.intro @bin_bb_eql <|
  And.intro @bin_bb_neq <|
  And.intro @bin_aa_eql <|
  And.intro @bin_aa_neq <|
  And.intro @un_not <|
  And.intro @un_neg <|
  And.intro @extract_zero <|
  And.intro @extract_succ <|
  And.intro @makeFunc_func <|
  And.intro @fa_str <|
  And.intro @f_str <|
  And.intro @f_stc <|
  And.intro @nil_ptr <|
  And.intro @part_int <|
  And.intro @part_arr <|
  And.intro @part_str <|
  And.intro @ia_arr <|
  And.intro @ia_sl <|
  And.intro @ix_arr <|
  And.intro @sl_arr <|
  And.intro @sl_sl <|
  And.intro @sl_nils <|
  And.intro @bnd_none <|
  And.intro @bnd_some <|
  And.intro @len_sl <|
  And.intro @len_mp <|
  And.intro @lenMB_mp <|
  And.intro @lk_mp <|
  And.intro @lkB_mp <|
  And.intro @lkR_t <|
  And.intro @lkR_f <|
  And.intro @mvS_t <|
  And.intro @mvS_f <|
  And.intro @mz_t <|
  And.intro @mz_f <|
  And.intro @mu_mp <|
  And.intro @muB_t <|
  And.intro @muB_f <|
  And.intro @mk_mp <|
  And.intro @mkB_t <|
  And.intro @mkB_f <|
  And.intro @len_nils <|
  And.intro @b_len <|
  And.intro @b_min <|
  And.intro @b_max <|
  And.intro @new_int <|
  And.intro @new_arr <|
  And.intro @new_bool <|
  And.intro @new_barr <|
  And.intro @new_ptr <|
  And.intro @new_slice <|
  And.intro @new_nils <|
  And.intro @new_mp <|
  And.intro @new_stc <|
  And.intro @new_fn <|
  And.intro @store_ptr <|
  And.intro @store_int <|
  And.intro @store_arr <|
  And.intro @store_bool <|
  And.intro @store_cellsI <|
  And.intro @store_cellsB <|
  And.intro @store_cellsP <|
  And.intro @store_cellsL <|
  And.intro @store_cellsN <|
  And.intro @store_cellsF <|
  And.intro @store_cellsU <|
  And.intro @store_cellsM <|
  And.intro @store_cellsR <|
  And.intro @cut_zero <|
  And.intro @bdM_some <|
  And.intro @bd_arr <|
  And.intro @bd_str <|
  And.intro @fA_nil <|
  And.intro @fA_int <|
  And.intro @fA_arr <|
  And.intro @fS_nil <|
  And.intro @fS_cons <|
  And.intro @fSt_int <|
  And.intro @fSt_arr <|
  And.intro @bdT_some <|
  And.intro @bd_stc <|
  And.intro @fR_nil <|
  And.intro @fR_cons <|
  And.intro @fRt_some <|
  And.intro @rep2_set <|
  And.intro @rep3_set <|
  And.intro @bsM_some <|
  And.intro @bs_sl <|
  And.intro @msM_nils <|
  And.intro @msM_int <|
  And.intro @msM_arr <|
  And.intro @ms_sl <|
  And.intro @isZ_int <|
  And.intro @isZ_arr <|
  And.intro @src_sl <|
  And.intro @srcB_ints <|
  And.intro @srcE_zero <|
  And.intro @srcE_one <|
  And.intro @srcE_succ <|
  And.intro @srcE_nils <|
  And.intro @ap_nils <|
  And.intro @ap_e_nils <|
  And.intro @ap_e_sl <|
  And.intro @ap_sl <|
  And.intro @apB_ints <|
  And.intro @cl_sl <|
  And.intro @clB_ints <|
  And.intro @oh_nil <|
  And.intro @oh_run <|
  And.intro @resth_eq <|
  And.intro @ghRun_eq <|
  And.intro @ghSkip_eq <|
  And.intro @ghB_t <|
  And.intro @ghB_f <|
  And.intro @ghB_und <|
  And.intro @ghT_some <|
  And.intro @oh_guard <|
  And.intro @h_move <|
  And.intro @h_assign <|
  And.intro @h_pick <|
  And.intro @h_binOp <|
  And.intro @h_unOp <|
  And.intro @h_extract <|
  And.intro @h_fieldAddr <|
  And.intro @h_field <|
  And.intro @h_indexAddr <|
  And.intro @h_index <|
  And.intro @h_slice <|
  And.intro @h_load <|
  And.intro @h_call <|
  And.intro @h_store <|
  And.intro @h_alloc <|
  And.intro @sth_ptr <|
  And.intro @sth_arr <|
  And.intro @sth_int <|
  And.intro @ah_int <|
  And.intro @ah_arr <|
  And.intro @sH_nil <|
  And.intro @sH_cons <|
  And.intro @sHB_ptr <|
  And.intro @sHO_ints <|
  And.intro @sHO_bls <|
  And.intro @dstAt_zero <|
  And.intro @dstAt_succ <|
  And.intro @hget_cons <|
  And.intro @List.map_cons.{0, 0} <|
  And.intro @List.map_nil.{0, 0} <|
  And.intro @List.all_cons.{0} <|
  And.intro @List.all_nil.{0} <|
  And.intro @List.reverse_cons.{0} <|
  And.intro @List.reverse_nil.{0} <|
  And.intro @List.nil_append.{0} <|
  And.intro @List.cons_append.{0} <|
  And.intro @List.append_nil.{0} <|
  And.intro @Option.map_some.{0, 0} <|
  And.intro @Option.map_none.{0, 0} <|
  And.intro @Bool.and_true <|
  And.intro @Bool.true_and <|
  And.intro @Bool.and_self <|
  And.intro @true_and <|
  And.intro @and_true <|
  And.intro @not_false_eq_true <|
  And.intro @Nat.zero_add <|
  And.intro @Nat.add_zero <|
  And.intro @Nat.succ_ne_self <|
  And.intro @List.getElem?_cons_zero.{0} <|
  And.intro @List.getElem?_cons_succ.{0} <|
  And.intro @SV.int.injEq <|
  And.intro @SV.bool.injEq <|
  And.intro @SV.arr.injEq <|
  And.intro @SV.tup.injEq <|
  And.intro @List.cons.injEq.{0} <|
  And.intro @Nat.le_refl <|
  And.intro @Nat.zero_le <|
  And.intro @Nat.one_ne_zero <|
  And.intro @List.drop_zero.{0} <|
  And.intro @beq_self_eq_true.{0} <|
  And.intro @List.set_cons_zero.{0} <|
  And.intro @List.set_cons_succ.{0} <|
  And.intro @List.drop_succ_cons.{0} <|
  And.intro @List.drop_nil.{0} <|
  And.intro @Bool.not_true <|
  And.intro @Bool.not_false <|
  And.intro @decide_true <|
  And.intro @decide_false <| @decide_eq_true_eq
theorem ZB : type_of% (
  And.intro @Nat.zero_mul <|
  And.intro @Nat.one_mul <|
  And.intro @Nat.mul_one <|
  And.intro @Int.cast_ofNat_Int <|
  And.intro @Int.toNat_zero <|
  And.intro @Int.toNat_one <|
  And.intro @Int.le_refl <|
  And.intro @Int.toNat_natCast <|
  And.intro @List.length_replicate.{0} <|
  And.intro @List.length_set.{0} <|
  And.intro @List.length_cons.{0} <|
  And.intro @List.length_nil.{0} <|
  And.intro @List.take_zero.{0} <|
  And.intro @List.drop_replicate.{0} <|
  And.intro @List.replicate_zero.{0} <|
  And.intro @List.take_succ_cons.{0} <|
  And.intro @Nat.sub_self <|
  And.intro @Nat.lt_add_one <|
  And.intro @Nat.zero_lt_one <|
  And.intro @Nat.one_lt_two <|
  And.intro @Nat.zero_lt_two <|
  And.intro @Nat.one_pos <|
  And.intro @Nat.zero_lt_succ <|
  And.intro @Nat.sub_zero <|
  And.intro @Bool.false_and <|
  And.intro @Bool.and_false <|
  And.intro @Bool.false_eq_true <|
  And.intro @false_implies <| @true_implies) :=
  And.intro @Nat.zero_mul <|
  And.intro @Nat.one_mul <|
  And.intro @Nat.mul_one <|
  And.intro @Int.cast_ofNat_Int <|
  And.intro @Int.toNat_zero <|
  And.intro @Int.toNat_one <|
  And.intro @Int.le_refl <|
  And.intro @Int.toNat_natCast <|
  And.intro @List.length_replicate.{0} <|
  And.intro @List.length_set.{0} <|
  And.intro @List.length_cons.{0} <|
  And.intro @List.length_nil.{0} <|
  And.intro @List.take_zero.{0} <|
  And.intro @List.drop_replicate.{0} <|
  And.intro @List.replicate_zero.{0} <|
  And.intro @List.take_succ_cons.{0} <|
  And.intro @Nat.sub_self <|
  And.intro @Nat.lt_add_one <|
  And.intro @Nat.zero_lt_one <|
  And.intro @Nat.one_lt_two <|
  And.intro @Nat.zero_lt_two <|
  And.intro @Nat.one_pos <|
  And.intro @Nat.zero_lt_succ <|
  And.intro @Nat.sub_zero <|
  And.intro @Bool.false_and <|
  And.intro @Bool.and_false <|
  And.intro @Bool.false_eq_true <|
  And.intro @false_implies <| @true_implies
theorem LB : type_of% (
  And.intro @sget_cons <|
  And.intro @hget_cons <|
  And.intro @and_true <|
  And.intro @true_and <|
  And.intro @and_self <|
  And.intro @SV.int.injEq <|
  And.intro @SV.bool.injEq <|
  And.intro @SV.arr.injEq <|
  And.intro @SV.barr.injEq <|
  And.intro @SV.ptr.injEq <|
  And.intro @SV.slice.injEq <|
  And.intro @SV.fn.injEq <|
  And.intro @SV.tup.injEq <|
  And.intro @SV.stc.injEq <|
  And.intro @SV.mp.injEq <|
  And.intro @SObj.ints.injEq <|
  And.intro @SObj.bls.injEq <|
  And.intro @SObj.cells.injEq <|
  And.intro @Option.some.injEq.{0} <|
  And.intro @List.cons.injEq.{0} <|
  And.intro @Nat.le_refl <|
  And.intro @Nat.zero_le <|
  And.intro @Int.natCast_add <|
  And.intro @Int.natCast_one <|
  And.intro @Int.cast_ofNat_Int <|
  And.intro @Nat.succ_ne_self <|
  And.intro @Nat.lt_add_one <|
  And.intro @false_implies <|
  And.intro @Nat.lt_irrefl <|
  And.intro @Nat.lt_one_iff <|
  And.intro @Nat.one_pos <|
  And.intro @Nat.zero_lt_one <| @true_implies) :=
  And.intro @sget_cons <|
  And.intro @hget_cons <|
  And.intro @and_true <|
  And.intro @true_and <|
  And.intro @and_self <|
  And.intro @SV.int.injEq <|
  And.intro @SV.bool.injEq <|
  And.intro @SV.arr.injEq <|
  And.intro @SV.barr.injEq <|
  And.intro @SV.ptr.injEq <|
  And.intro @SV.slice.injEq <|
  And.intro @SV.fn.injEq <|
  And.intro @SV.tup.injEq <|
  And.intro @SV.stc.injEq <|
  And.intro @SV.mp.injEq <|
  And.intro @SObj.ints.injEq <|
  And.intro @SObj.bls.injEq <|
  And.intro @SObj.cells.injEq <|
  And.intro @Option.some.injEq.{0} <|
  And.intro @List.cons.injEq.{0} <|
  And.intro @Nat.le_refl <|
  And.intro @Nat.zero_le <|
  And.intro @Int.natCast_add <|
  And.intro @Int.natCast_one <|
  And.intro @Int.cast_ofNat_Int <|
  And.intro @Nat.succ_ne_self <|
  And.intro @Nat.lt_add_one <|
  And.intro @false_implies <|
  And.intro @Nat.lt_irrefl <|
  And.intro @Nat.lt_one_iff <|
  And.intro @Nat.one_pos <|
  And.intro @Nat.zero_lt_one <| @true_implies
end Go.Proofs.YtmccafjblhbmkaaGreat
set_option maxRecDepth 100000
namespace Go.Proofs.YtmccafjblhbmkaaGreat
open Go Go.RowKit

def tys : Tys := fun t => match t with
  | 1 => ⟨.sca, 1, 8, .non⟩
  | 2 => ⟨.int, 1, 8, .int 0⟩
  | 3 => ⟨.int, 1, 8, .int 0⟩
  | 4 => ⟨.bool, 1, 1, .bool false⟩
  | 5 => ⟨.num .u8, 1, 1, .lit (.int .u8 0)⟩
  | 6 => ⟨.num .u8, 1, 1, .lit (.int .u8 0)⟩
  | 7 => ⟨.str [(0, 2), (1, 3), (2, 4), (3, 6)], 4, 24, .stc [.int 0, .int 0, .bool false, .lit (.int .u8 0)]⟩
  | 8 => ⟨.str [(0, 2), (1, 3), (2, 4), (3, 6)], 4, 24, .stc [.int 0, .int 0, .bool false, .lit (.int .u8 0)]⟩
  | 12 => ⟨.num .u64, 1, 8, .lit (.int .u64 0)⟩
  | 13 => ⟨.str [(0, 9), (1, 12)], 2, 24, .non⟩
  | 14 => ⟨.str [(0, 9), (1, 12)], 2, 24, .non⟩
  | 15 => ⟨.sca, 1, 8, .non⟩
  | 16 => ⟨.sca, 1, 8, .non⟩
  | 17 => ⟨.sca, 1, 8, .non⟩
  | 18 => ⟨.str [(0, 17)], 1, 8, .stc [.lit (.pointer none)]⟩
  | 19 => ⟨.str [(0, 17)], 1, 8, .stc [.lit (.pointer none)]⟩
  | 21 => ⟨.num .i32, 1, 4, .lit (.int .i32 0)⟩
  | 22 => ⟨.sl 5, 1, 24, .nils⟩
  | 23 => ⟨.sca, 1, 8, .non⟩
  | 24 => ⟨.arr 4 3, 4, 32, .arr (List.replicate 4 0)⟩
  | 25 => ⟨.arr 6 24, 24, 192, .arr (List.replicate 24 0)⟩
  | 26 => ⟨.str [(0, 25)], 24, 192, .arr (List.replicate 24 0)⟩
  | 27 => ⟨.str [(0, 25)], 24, 192, .arr (List.replicate 24 0)⟩
  | 28 => ⟨.sca, 1, 8, .non⟩
  | 30 => ⟨.sca, 1, 8, .non⟩
  | 32 => ⟨.sca, 1, 8, .non⟩
  | 33 => ⟨.sca, 1, 8, .non⟩
  | 35 => ⟨.sca, 1, 8, .non⟩
  | 36 => ⟨.sca, 1, 8, .non⟩
  | 38 => ⟨.sca, 1, 8, .non⟩
  | 39 => ⟨.sca, 1, 8, .non⟩
  | 40 => ⟨.arr 6 3, 6, 48, .arr (List.replicate 6 0)⟩
  | 42 => ⟨.sca, 1, 8, .non⟩
  | 43 => ⟨.sca, 1, 8, .non⟩
  | 44 => ⟨.sl 65, 1, 24, .nils⟩
  | 46 => ⟨.sca, 1, 8, .non⟩
  | 47 => ⟨.str [(0, 3), (1, 3), (2, 3)], 3, 24, .arr (List.replicate 3 0)⟩
  | 48 => ⟨.str [(0, 3), (1, 3), (2, 3)], 3, 24, .arr (List.replicate 3 0)⟩
  | 50 => ⟨.sca, 1, 8, .non⟩
  | 51 => ⟨.sca, 1, 8, .non⟩
  | 52 => ⟨.sl 48, 1, 24, .nils⟩
  | 54 => ⟨.sca, 1, 8, .non⟩
  | 55 => ⟨.sl 27, 1, 24, .nils⟩
  | 57 => ⟨.sca, 1, 8, .non⟩
  | 59 => ⟨.sca, 1, 8, .non⟩
  | 60 => ⟨.sca, 1, 8, .non⟩
  | 61 => ⟨.sca, 1, 8, .non⟩
  | 62 => ⟨.sca, 1, 8, .non⟩
  | 64 => ⟨.sca, 1, 8, .non⟩
  | 65 => ⟨.arr 2 3, 2, 16, .arr (List.replicate 2 0)⟩
  | 66 => ⟨.sl 3, 1, 24, .nils⟩
  | 68 => ⟨.sca, 1, 8, .non⟩
  | 70 => ⟨.sca, 1, 8, .non⟩
  | 71 => ⟨.sca, 1, 8, .non⟩
  | 72 => ⟨.sca, 1, 8, .non⟩
  | 74 => ⟨.sca, 1, 8, .non⟩
  | 75 => ⟨.sca, 1, 8, .non⟩
  | 77 => ⟨.sca, 1, 8, .non⟩
  | 78 => ⟨.sca, 1, 8, .non⟩
  | 79 => ⟨.sca, 1, 8, .non⟩
  | 80 => ⟨.sca, 1, 8, .non⟩
  | 81 => ⟨.sca, 1, 8, .non⟩
  | 82 => ⟨.sca, 1, 8, .non⟩
  | 83 => ⟨.num .u64, 1, 8, .lit (.int .u64 0)⟩
  | 84 => ⟨.str [(0, 22), (1, 3), (2, 83)], 3, 40, .stc [.nils, .int 0, .lit (.int .u64 0)]⟩
  | 85 => ⟨.str [(0, 22), (1, 3), (2, 83)], 3, 40, .stc [.nils, .int 0, .lit (.int .u64 0)]⟩
  | 86 => ⟨.sca, 1, 8, .non⟩
  | 87 => ⟨.sca, 1, 8, .non⟩
  | 88 => ⟨.sca, 1, 8, .non⟩
  | 89 => ⟨.sca, 1, 8, .non⟩
  | 90 => ⟨.sca, 1, 8, .non⟩
  | 91 => ⟨.sca, 1, 8, .non⟩
  | 92 => ⟨.sca, 1, 8, .non⟩
  | 93 => ⟨.sca, 1, 8, .non⟩
  | 94 => ⟨.sca, 1, 8, .non⟩
  | 95 => ⟨.mp 27 3, 1, 8, .non⟩
  | 96 => ⟨.str [(0, 95), (1, 55), (2, 3)], 3, 40, .stc [.lit (.map none), .nils, .int 0]⟩
  | 97 => ⟨.str [(0, 95), (1, 55), (2, 3)], 3, 40, .stc [.lit (.map none), .nils, .int 0]⟩
  | 98 => ⟨.sl 66, 1, 24, .nils⟩
  | 99 => ⟨.str [(0, 55), (1, 66), (2, 98)], 3, 72, .stc [.nils, .nils, .nils]⟩
  | 100 => ⟨.str [(0, 55), (1, 66), (2, 98)], 3, 72, .stc [.nils, .nils, .nils]⟩
  | 102 => ⟨.sca, 1, 8, .non⟩
  | 103 => ⟨.sca, 1, 8, .non⟩
  | 104 => ⟨.sca, 1, 8, .non⟩
  | 105 => ⟨.sca, 1, 8, .non⟩
  | 106 => ⟨.sca, 1, 8, .non⟩
  | 107 => ⟨.sca, 1, 8, .non⟩
  | 108 => ⟨.sca, 1, 8, .non⟩
  | 109 => ⟨.sca, 1, 8, .non⟩
  | 110 => ⟨.sca, 1, 8, .non⟩
  | 111 => ⟨.sca, 1, 8, .non⟩
  | 112 => ⟨.sca, 1, 8, .non⟩
  | 113 => ⟨.sca, 1, 8, .non⟩
  | 114 => ⟨.mp 27 4, 1, 8, .non⟩
  | 115 => ⟨.sca, 1, 8, .non⟩
  | 116 => ⟨.sca, 1, 8, .non⟩
  | 117 => ⟨.sca, 1, 8, .non⟩
  | 118 => ⟨.sca, 1, 8, .non⟩
  | 119 => ⟨.sca, 1, 8, .non⟩
  | 120 => ⟨.sca, 1, 8, .non⟩
  | 121 => ⟨.sca, 1, 8, .non⟩
  | 122 => ⟨.sca, 1, 8, .non⟩
  | 123 => ⟨.sca, 1, 8, .non⟩
  | 124 => ⟨.sca, 1, 8, .non⟩
  | 125 => ⟨.sca, 1, 8, .non⟩
  | 127 => ⟨.sca, 1, 8, .non⟩
  | 128 => ⟨.str [(0, 92), (1, 95)], 2, 16, .stc [.lit (.pointer none), .lit (.map none)]⟩
  | 129 => ⟨.str [(0, 92), (1, 95)], 2, 16, .stc [.lit (.pointer none), .lit (.map none)]⟩
  | 130 => ⟨.sca, 1, 8, .non⟩
  | 131 => ⟨.sl 24, 1, 24, .nils⟩
  | 132 => ⟨.sca, 1, 8, .non⟩
  | 133 => ⟨.sca, 1, 8, .non⟩
  | 134 => ⟨.sca, 1, 8, .non⟩
  | 135 => ⟨.sca, 1, 8, .non⟩
  | 136 => ⟨.sca, 1, 8, .non⟩
  | 137 => ⟨.sca, 1, 8, .non⟩
  | 138 => ⟨.sca, 1, 8, .non⟩
  | 139 => ⟨.sca, 1, 8, .non⟩
  | 141 => ⟨.sca, 1, 8, .non⟩
  | 142 => ⟨.sca, 1, 8, .non⟩
  | 143 => ⟨.sca, 1, 8, .non⟩
  | 144 => ⟨.sca, 1, 8, .non⟩
  | 145 => ⟨.sca, 1, 8, .non⟩
  | 146 => ⟨.sca, 1, 8, .non⟩
  | 147 => ⟨.sca, 1, 8, .non⟩
  | 148 => ⟨.sca, 1, 8, .non⟩
  | 149 => ⟨.sca, 1, 8, .non⟩
  | 150 => ⟨.sca, 1, 8, .non⟩
  | 151 => ⟨.sca, 1, 8, .non⟩
  | 152 => ⟨.arr 6 4, 6, 6, .barr (List.replicate 6 false)⟩
  | 153 => ⟨.sca, 1, 8, .non⟩
  | 154 => ⟨.sca, 1, 8, .non⟩
  | 155 => ⟨.sca, 1, 8, .non⟩
  | 156 => ⟨.num .u64, 1, 8, .lit (.int .u64 0)⟩
  | 157 => ⟨.sca, 1, 8, .non⟩
  | 158 => ⟨.sca, 1, 8, .non⟩
  | 159 => ⟨.sca, 1, 8, .non⟩
  | 160 => ⟨.sca, 1, 8, .non⟩
  | 161 => ⟨.sca, 1, 8, .non⟩
  | 162 => ⟨.sca, 1, 8, .non⟩
  | 163 => ⟨.sca, 1, 8, .non⟩
  | 164 => ⟨.sca, 1, 8, .non⟩
  | 165 => ⟨.sca, 1, 8, .non⟩
  | 166 => ⟨.int, 1, 8, .int 0⟩
  | 168 => ⟨.sca, 1, 8, .non⟩
  | 169 => ⟨.sca, 1, 8, .non⟩
  | 170 => ⟨.sca, 1, 8, .non⟩
  | 171 => ⟨.sca, 1, 8, .non⟩
  | 172 => ⟨.sca, 1, 8, .non⟩
  | 173 => ⟨.num .u32, 1, 4, .lit (.int .u32 0)⟩
  | 174 => ⟨.sca, 1, 8, .non⟩
  | 175 => ⟨.sca, 1, 8, .non⟩
  | 176 => ⟨.sca, 1, 8, .non⟩
  | 177 => ⟨.sca, 1, 8, .non⟩
  | 178 => ⟨.sca, 1, 8, .non⟩
  | 179 => ⟨.sca, 1, 8, .non⟩
  | 180 => ⟨.sca, 1, 8, .non⟩
  | 181 => ⟨.sca, 1, 8, .non⟩
  | 182 => ⟨.num .u64, 1, 8, .lit (.int .u64 0)⟩
  | 183 => ⟨.sca, 1, 8, .non⟩
  | 184 => ⟨.sca, 1, 8, .non⟩
  | 185 => ⟨.sca, 1, 8, .non⟩
  | 186 => ⟨.sca, 1, 8, .non⟩
  | 187 => ⟨.sca, 1, 8, .non⟩
  | 188 => ⟨.sca, 1, 8, .non⟩
  | 189 => ⟨.sca, 1, 8, .non⟩
  | 190 => ⟨.sca, 1, 8, .non⟩
  | 191 => ⟨.sca, 1, 8, .non⟩
  | 192 => ⟨.sca, 1, 8, .non⟩
  | 193 => ⟨.sca, 1, 8, .non⟩
  | 194 => ⟨.str [(0, 17), (1, 17), (2, 17), (3, 9)], 4, 40, .non⟩
  | 195 => ⟨.str [(0, 17), (1, 17), (2, 17), (3, 9)], 4, 40, .non⟩
  | 196 => ⟨.arr 0 16, 0, 0, .non⟩
  | 197 => ⟨.str [(0, 196)], 0, 0, .non⟩
  | 198 => ⟨.str [(0, 196)], 0, 0, .non⟩
  | 199 => ⟨.num .u8, 1, 1, .lit (.int .u8 0)⟩
  | 200 => ⟨.num .u8, 1, 1, .lit (.int .u8 0)⟩
  | 201 => ⟨.sca, 1, 8, .non⟩
  | 202 => ⟨.sca, 1, 8, .non⟩
  | 203 => ⟨.num .i32, 1, 4, .lit (.int .i32 0)⟩
  | 204 => ⟨.num .i32, 1, 4, .lit (.int .i32 0)⟩
  | 205 => ⟨.str [(0, 12), (1, 12), (2, 173), (3, 199), (4, 5), (5, 5), (6, 200), (7, 201), (8, 202), (9, 203), (10, 204)], 11, 48, .non⟩
  | 206 => ⟨.str [(0, 12), (1, 12), (2, 173), (3, 199), (4, 5), (5, 5), (6, 200), (7, 201), (8, 202), (9, 203), (10, 204)], 11, 48, .non⟩
  | _ => ⟨.other, 0, 0, .non⟩
theorem ty_1 : tys 1 = ⟨.sca, 1, 8, .non⟩ := rfl
theorem ty_2 : tys 2 = ⟨.int, 1, 8, .int 0⟩ := rfl
theorem ty_3 : tys 3 = ⟨.int, 1, 8, .int 0⟩ := rfl
theorem ty_4 : tys 4 = ⟨.bool, 1, 1, .bool false⟩ := rfl
theorem ty_5 : tys 5 = ⟨.num .u8, 1, 1, .lit (.int .u8 0)⟩ := rfl
theorem ty_6 : tys 6 = ⟨.num .u8, 1, 1, .lit (.int .u8 0)⟩ := rfl
theorem ty_7 : tys 7 = ⟨.str [(0, 2), (1, 3), (2, 4), (3, 6)], 4, 24, .stc [.int 0, .int 0, .bool false, .lit (.int .u8 0)]⟩ := rfl
theorem ty_8 : tys 8 = ⟨.str [(0, 2), (1, 3), (2, 4), (3, 6)], 4, 24, .stc [.int 0, .int 0, .bool false, .lit (.int .u8 0)]⟩ := rfl
theorem ty_12 : tys 12 = ⟨.num .u64, 1, 8, .lit (.int .u64 0)⟩ := rfl
theorem ty_13 : tys 13 = ⟨.str [(0, 9), (1, 12)], 2, 24, .non⟩ := rfl
theorem ty_14 : tys 14 = ⟨.str [(0, 9), (1, 12)], 2, 24, .non⟩ := rfl
theorem ty_15 : tys 15 = ⟨.sca, 1, 8, .non⟩ := rfl
theorem ty_16 : tys 16 = ⟨.sca, 1, 8, .non⟩ := rfl
theorem ty_17 : tys 17 = ⟨.sca, 1, 8, .non⟩ := rfl
theorem ty_18 : tys 18 = ⟨.str [(0, 17)], 1, 8, .stc [.lit (.pointer none)]⟩ := rfl
theorem ty_19 : tys 19 = ⟨.str [(0, 17)], 1, 8, .stc [.lit (.pointer none)]⟩ := rfl
theorem ty_21 : tys 21 = ⟨.num .i32, 1, 4, .lit (.int .i32 0)⟩ := rfl
theorem ty_22 : tys 22 = ⟨.sl 5, 1, 24, .nils⟩ := rfl
theorem ty_23 : tys 23 = ⟨.sca, 1, 8, .non⟩ := rfl
theorem ty_24 : tys 24 = ⟨.arr 4 3, 4, 32, .arr (List.replicate 4 0)⟩ := rfl
theorem ty_25 : tys 25 = ⟨.arr 6 24, 24, 192, .arr (List.replicate 24 0)⟩ := rfl
theorem ty_26 : tys 26 = ⟨.str [(0, 25)], 24, 192, .arr (List.replicate 24 0)⟩ := rfl
theorem ty_27 : tys 27 = ⟨.str [(0, 25)], 24, 192, .arr (List.replicate 24 0)⟩ := rfl
theorem ty_28 : tys 28 = ⟨.sca, 1, 8, .non⟩ := rfl
theorem ty_30 : tys 30 = ⟨.sca, 1, 8, .non⟩ := rfl
theorem ty_32 : tys 32 = ⟨.sca, 1, 8, .non⟩ := rfl
theorem ty_33 : tys 33 = ⟨.sca, 1, 8, .non⟩ := rfl
theorem ty_35 : tys 35 = ⟨.sca, 1, 8, .non⟩ := rfl
theorem ty_36 : tys 36 = ⟨.sca, 1, 8, .non⟩ := rfl
theorem ty_38 : tys 38 = ⟨.sca, 1, 8, .non⟩ := rfl
theorem ty_39 : tys 39 = ⟨.sca, 1, 8, .non⟩ := rfl
theorem ty_40 : tys 40 = ⟨.arr 6 3, 6, 48, .arr (List.replicate 6 0)⟩ := rfl
theorem ty_42 : tys 42 = ⟨.sca, 1, 8, .non⟩ := rfl
theorem ty_43 : tys 43 = ⟨.sca, 1, 8, .non⟩ := rfl
theorem ty_44 : tys 44 = ⟨.sl 65, 1, 24, .nils⟩ := rfl
theorem ty_46 : tys 46 = ⟨.sca, 1, 8, .non⟩ := rfl
theorem ty_47 : tys 47 = ⟨.str [(0, 3), (1, 3), (2, 3)], 3, 24, .arr (List.replicate 3 0)⟩ := rfl
theorem ty_48 : tys 48 = ⟨.str [(0, 3), (1, 3), (2, 3)], 3, 24, .arr (List.replicate 3 0)⟩ := rfl
theorem ty_50 : tys 50 = ⟨.sca, 1, 8, .non⟩ := rfl
theorem ty_51 : tys 51 = ⟨.sca, 1, 8, .non⟩ := rfl
theorem ty_52 : tys 52 = ⟨.sl 48, 1, 24, .nils⟩ := rfl
theorem ty_54 : tys 54 = ⟨.sca, 1, 8, .non⟩ := rfl
theorem ty_55 : tys 55 = ⟨.sl 27, 1, 24, .nils⟩ := rfl
theorem ty_57 : tys 57 = ⟨.sca, 1, 8, .non⟩ := rfl
theorem ty_59 : tys 59 = ⟨.sca, 1, 8, .non⟩ := rfl
theorem ty_60 : tys 60 = ⟨.sca, 1, 8, .non⟩ := rfl
theorem ty_61 : tys 61 = ⟨.sca, 1, 8, .non⟩ := rfl
theorem ty_62 : tys 62 = ⟨.sca, 1, 8, .non⟩ := rfl
theorem ty_64 : tys 64 = ⟨.sca, 1, 8, .non⟩ := rfl
theorem ty_65 : tys 65 = ⟨.arr 2 3, 2, 16, .arr (List.replicate 2 0)⟩ := rfl
theorem ty_66 : tys 66 = ⟨.sl 3, 1, 24, .nils⟩ := rfl
theorem ty_68 : tys 68 = ⟨.sca, 1, 8, .non⟩ := rfl
theorem ty_70 : tys 70 = ⟨.sca, 1, 8, .non⟩ := rfl
theorem ty_71 : tys 71 = ⟨.sca, 1, 8, .non⟩ := rfl
theorem ty_72 : tys 72 = ⟨.sca, 1, 8, .non⟩ := rfl
theorem ty_74 : tys 74 = ⟨.sca, 1, 8, .non⟩ := rfl
theorem ty_75 : tys 75 = ⟨.sca, 1, 8, .non⟩ := rfl
theorem ty_77 : tys 77 = ⟨.sca, 1, 8, .non⟩ := rfl
theorem ty_78 : tys 78 = ⟨.sca, 1, 8, .non⟩ := rfl
theorem ty_79 : tys 79 = ⟨.sca, 1, 8, .non⟩ := rfl
theorem ty_80 : tys 80 = ⟨.sca, 1, 8, .non⟩ := rfl
theorem ty_81 : tys 81 = ⟨.sca, 1, 8, .non⟩ := rfl
theorem ty_82 : tys 82 = ⟨.sca, 1, 8, .non⟩ := rfl
theorem ty_83 : tys 83 = ⟨.num .u64, 1, 8, .lit (.int .u64 0)⟩ := rfl
theorem ty_84 : tys 84 = ⟨.str [(0, 22), (1, 3), (2, 83)], 3, 40, .stc [.nils, .int 0, .lit (.int .u64 0)]⟩ := rfl
theorem ty_85 : tys 85 = ⟨.str [(0, 22), (1, 3), (2, 83)], 3, 40, .stc [.nils, .int 0, .lit (.int .u64 0)]⟩ := rfl
theorem ty_86 : tys 86 = ⟨.sca, 1, 8, .non⟩ := rfl
theorem ty_87 : tys 87 = ⟨.sca, 1, 8, .non⟩ := rfl
theorem ty_88 : tys 88 = ⟨.sca, 1, 8, .non⟩ := rfl
theorem ty_89 : tys 89 = ⟨.sca, 1, 8, .non⟩ := rfl
theorem ty_90 : tys 90 = ⟨.sca, 1, 8, .non⟩ := rfl
theorem ty_91 : tys 91 = ⟨.sca, 1, 8, .non⟩ := rfl
theorem ty_92 : tys 92 = ⟨.sca, 1, 8, .non⟩ := rfl
theorem ty_93 : tys 93 = ⟨.sca, 1, 8, .non⟩ := rfl
theorem ty_94 : tys 94 = ⟨.sca, 1, 8, .non⟩ := rfl
theorem ty_95 : tys 95 = ⟨.mp 27 3, 1, 8, .non⟩ := rfl
theorem ty_96 : tys 96 = ⟨.str [(0, 95), (1, 55), (2, 3)], 3, 40, .stc [.lit (.map none), .nils, .int 0]⟩ := rfl
theorem ty_97 : tys 97 = ⟨.str [(0, 95), (1, 55), (2, 3)], 3, 40, .stc [.lit (.map none), .nils, .int 0]⟩ := rfl
theorem ty_98 : tys 98 = ⟨.sl 66, 1, 24, .nils⟩ := rfl
theorem ty_99 : tys 99 = ⟨.str [(0, 55), (1, 66), (2, 98)], 3, 72, .stc [.nils, .nils, .nils]⟩ := rfl
theorem ty_100 : tys 100 = ⟨.str [(0, 55), (1, 66), (2, 98)], 3, 72, .stc [.nils, .nils, .nils]⟩ := rfl
theorem ty_102 : tys 102 = ⟨.sca, 1, 8, .non⟩ := rfl
theorem ty_103 : tys 103 = ⟨.sca, 1, 8, .non⟩ := rfl
theorem ty_104 : tys 104 = ⟨.sca, 1, 8, .non⟩ := rfl
theorem ty_105 : tys 105 = ⟨.sca, 1, 8, .non⟩ := rfl
theorem ty_106 : tys 106 = ⟨.sca, 1, 8, .non⟩ := rfl
theorem ty_107 : tys 107 = ⟨.sca, 1, 8, .non⟩ := rfl
theorem ty_108 : tys 108 = ⟨.sca, 1, 8, .non⟩ := rfl
theorem ty_109 : tys 109 = ⟨.sca, 1, 8, .non⟩ := rfl
theorem ty_110 : tys 110 = ⟨.sca, 1, 8, .non⟩ := rfl
theorem ty_111 : tys 111 = ⟨.sca, 1, 8, .non⟩ := rfl
theorem ty_112 : tys 112 = ⟨.sca, 1, 8, .non⟩ := rfl
theorem ty_113 : tys 113 = ⟨.sca, 1, 8, .non⟩ := rfl
theorem ty_114 : tys 114 = ⟨.mp 27 4, 1, 8, .non⟩ := rfl
theorem ty_115 : tys 115 = ⟨.sca, 1, 8, .non⟩ := rfl
theorem ty_116 : tys 116 = ⟨.sca, 1, 8, .non⟩ := rfl
theorem ty_117 : tys 117 = ⟨.sca, 1, 8, .non⟩ := rfl
theorem ty_118 : tys 118 = ⟨.sca, 1, 8, .non⟩ := rfl
theorem ty_119 : tys 119 = ⟨.sca, 1, 8, .non⟩ := rfl
theorem ty_120 : tys 120 = ⟨.sca, 1, 8, .non⟩ := rfl
theorem ty_121 : tys 121 = ⟨.sca, 1, 8, .non⟩ := rfl
theorem ty_122 : tys 122 = ⟨.sca, 1, 8, .non⟩ := rfl
theorem ty_123 : tys 123 = ⟨.sca, 1, 8, .non⟩ := rfl
theorem ty_124 : tys 124 = ⟨.sca, 1, 8, .non⟩ := rfl
theorem ty_125 : tys 125 = ⟨.sca, 1, 8, .non⟩ := rfl
theorem ty_127 : tys 127 = ⟨.sca, 1, 8, .non⟩ := rfl
theorem ty_128 : tys 128 = ⟨.str [(0, 92), (1, 95)], 2, 16, .stc [.lit (.pointer none), .lit (.map none)]⟩ := rfl
theorem ty_129 : tys 129 = ⟨.str [(0, 92), (1, 95)], 2, 16, .stc [.lit (.pointer none), .lit (.map none)]⟩ := rfl
theorem ty_130 : tys 130 = ⟨.sca, 1, 8, .non⟩ := rfl
theorem ty_131 : tys 131 = ⟨.sl 24, 1, 24, .nils⟩ := rfl
theorem ty_132 : tys 132 = ⟨.sca, 1, 8, .non⟩ := rfl
theorem ty_133 : tys 133 = ⟨.sca, 1, 8, .non⟩ := rfl
theorem ty_134 : tys 134 = ⟨.sca, 1, 8, .non⟩ := rfl
theorem ty_135 : tys 135 = ⟨.sca, 1, 8, .non⟩ := rfl
theorem ty_136 : tys 136 = ⟨.sca, 1, 8, .non⟩ := rfl
theorem ty_137 : tys 137 = ⟨.sca, 1, 8, .non⟩ := rfl
theorem ty_138 : tys 138 = ⟨.sca, 1, 8, .non⟩ := rfl
theorem ty_139 : tys 139 = ⟨.sca, 1, 8, .non⟩ := rfl
theorem ty_141 : tys 141 = ⟨.sca, 1, 8, .non⟩ := rfl
theorem ty_142 : tys 142 = ⟨.sca, 1, 8, .non⟩ := rfl
theorem ty_143 : tys 143 = ⟨.sca, 1, 8, .non⟩ := rfl
theorem ty_144 : tys 144 = ⟨.sca, 1, 8, .non⟩ := rfl
theorem ty_145 : tys 145 = ⟨.sca, 1, 8, .non⟩ := rfl
theorem ty_146 : tys 146 = ⟨.sca, 1, 8, .non⟩ := rfl
theorem ty_147 : tys 147 = ⟨.sca, 1, 8, .non⟩ := rfl
theorem ty_148 : tys 148 = ⟨.sca, 1, 8, .non⟩ := rfl
theorem ty_149 : tys 149 = ⟨.sca, 1, 8, .non⟩ := rfl
theorem ty_150 : tys 150 = ⟨.sca, 1, 8, .non⟩ := rfl
theorem ty_151 : tys 151 = ⟨.sca, 1, 8, .non⟩ := rfl
theorem ty_152 : tys 152 = ⟨.arr 6 4, 6, 6, .barr (List.replicate 6 false)⟩ := rfl
theorem ty_153 : tys 153 = ⟨.sca, 1, 8, .non⟩ := rfl
theorem ty_154 : tys 154 = ⟨.sca, 1, 8, .non⟩ := rfl
theorem ty_155 : tys 155 = ⟨.sca, 1, 8, .non⟩ := rfl
theorem ty_156 : tys 156 = ⟨.num .u64, 1, 8, .lit (.int .u64 0)⟩ := rfl
theorem ty_157 : tys 157 = ⟨.sca, 1, 8, .non⟩ := rfl
theorem ty_158 : tys 158 = ⟨.sca, 1, 8, .non⟩ := rfl
theorem ty_159 : tys 159 = ⟨.sca, 1, 8, .non⟩ := rfl
theorem ty_160 : tys 160 = ⟨.sca, 1, 8, .non⟩ := rfl
theorem ty_161 : tys 161 = ⟨.sca, 1, 8, .non⟩ := rfl
theorem ty_162 : tys 162 = ⟨.sca, 1, 8, .non⟩ := rfl
theorem ty_163 : tys 163 = ⟨.sca, 1, 8, .non⟩ := rfl
theorem ty_164 : tys 164 = ⟨.sca, 1, 8, .non⟩ := rfl
theorem ty_165 : tys 165 = ⟨.sca, 1, 8, .non⟩ := rfl
theorem ty_166 : tys 166 = ⟨.int, 1, 8, .int 0⟩ := rfl
theorem ty_168 : tys 168 = ⟨.sca, 1, 8, .non⟩ := rfl
theorem ty_169 : tys 169 = ⟨.sca, 1, 8, .non⟩ := rfl
theorem ty_170 : tys 170 = ⟨.sca, 1, 8, .non⟩ := rfl
theorem ty_171 : tys 171 = ⟨.sca, 1, 8, .non⟩ := rfl
theorem ty_172 : tys 172 = ⟨.sca, 1, 8, .non⟩ := rfl
theorem ty_173 : tys 173 = ⟨.num .u32, 1, 4, .lit (.int .u32 0)⟩ := rfl
theorem ty_174 : tys 174 = ⟨.sca, 1, 8, .non⟩ := rfl
theorem ty_175 : tys 175 = ⟨.sca, 1, 8, .non⟩ := rfl
theorem ty_176 : tys 176 = ⟨.sca, 1, 8, .non⟩ := rfl
theorem ty_177 : tys 177 = ⟨.sca, 1, 8, .non⟩ := rfl
theorem ty_178 : tys 178 = ⟨.sca, 1, 8, .non⟩ := rfl
theorem ty_179 : tys 179 = ⟨.sca, 1, 8, .non⟩ := rfl
theorem ty_180 : tys 180 = ⟨.sca, 1, 8, .non⟩ := rfl
theorem ty_181 : tys 181 = ⟨.sca, 1, 8, .non⟩ := rfl
theorem ty_182 : tys 182 = ⟨.num .u64, 1, 8, .lit (.int .u64 0)⟩ := rfl
theorem ty_183 : tys 183 = ⟨.sca, 1, 8, .non⟩ := rfl
theorem ty_184 : tys 184 = ⟨.sca, 1, 8, .non⟩ := rfl
theorem ty_185 : tys 185 = ⟨.sca, 1, 8, .non⟩ := rfl
theorem ty_186 : tys 186 = ⟨.sca, 1, 8, .non⟩ := rfl
theorem ty_187 : tys 187 = ⟨.sca, 1, 8, .non⟩ := rfl
theorem ty_188 : tys 188 = ⟨.sca, 1, 8, .non⟩ := rfl
theorem ty_189 : tys 189 = ⟨.sca, 1, 8, .non⟩ := rfl
theorem ty_190 : tys 190 = ⟨.sca, 1, 8, .non⟩ := rfl
theorem ty_191 : tys 191 = ⟨.sca, 1, 8, .non⟩ := rfl
theorem ty_192 : tys 192 = ⟨.sca, 1, 8, .non⟩ := rfl
theorem ty_193 : tys 193 = ⟨.sca, 1, 8, .non⟩ := rfl
theorem ty_194 : tys 194 = ⟨.str [(0, 17), (1, 17), (2, 17), (3, 9)], 4, 40, .non⟩ := rfl
theorem ty_195 : tys 195 = ⟨.str [(0, 17), (1, 17), (2, 17), (3, 9)], 4, 40, .non⟩ := rfl
theorem ty_196 : tys 196 = ⟨.arr 0 16, 0, 0, .non⟩ := rfl
theorem ty_197 : tys 197 = ⟨.str [(0, 196)], 0, 0, .non⟩ := rfl
theorem ty_198 : tys 198 = ⟨.str [(0, 196)], 0, 0, .non⟩ := rfl
theorem ty_199 : tys 199 = ⟨.num .u8, 1, 1, .lit (.int .u8 0)⟩ := rfl
theorem ty_200 : tys 200 = ⟨.num .u8, 1, 1, .lit (.int .u8 0)⟩ := rfl
theorem ty_201 : tys 201 = ⟨.sca, 1, 8, .non⟩ := rfl
theorem ty_202 : tys 202 = ⟨.sca, 1, 8, .non⟩ := rfl
theorem ty_203 : tys 203 = ⟨.num .i32, 1, 4, .lit (.int .i32 0)⟩ := rfl
theorem ty_204 : tys 204 = ⟨.num .i32, 1, 4, .lit (.int .i32 0)⟩ := rfl
theorem ty_205 : tys 205 = ⟨.str [(0, 12), (1, 12), (2, 173), (3, 199), (4, 5), (5, 5), (6, 200), (7, 201), (8, 202), (9, 203), (10, 204)], 11, 48, .non⟩ := rfl
theorem ty_206 : tys 206 = ⟨.str [(0, 12), (1, 12), (2, 173), (3, 199), (4, 5), (5, 5), (6, 200), (7, 201), (8, 202), (9, 203), (10, 204)], 11, 48, .non⟩ := rfl
theorem tyok_1 : TyOK Tryz.prog 1 (tys 1) := tyOK_mk ⟨_, Tryz.underlying1, rfl⟩ (.inr ⟨rfl, by kernel_rfl⟩)
theorem tyok_2 : TyOK Tryz.prog 2 (tys 2) := tyOK_mk Tryz.underlying2 (.inl (by kernel_rfl))
theorem tyok_3 : TyOK Tryz.prog 3 (tys 3) := tyOK_mk Tryz.underlying3 (.inl (by kernel_rfl))
theorem tyok_4 : TyOK Tryz.prog 4 (tys 4) := tyOK_mk Tryz.underlying4 (.inl (by kernel_rfl))
theorem tyok_5 : TyOK Tryz.prog 5 (tys 5) := tyOK_mk Tryz.underlying5 (.inl (by kernel_rfl))
theorem tyok_6 : TyOK Tryz.prog 6 (tys 6) := tyOK_mk Tryz.underlying6 (.inl (by kernel_rfl))
theorem tyok_7 : TyOK Tryz.prog 7 (tys 7) := tyOK_mk ⟨_, Tryz.underlying7, rfl⟩ (.inl (by kernel_rfl))
theorem tyok_8 : TyOK Tryz.prog 8 (tys 8) := tyOK_mk ⟨_, Tryz.underlying8, rfl⟩ (.inl (by kernel_rfl))
theorem tyok_12 : TyOK Tryz.prog 12 (tys 12) := tyOK_mk Tryz.underlying12 (.inl (by kernel_rfl))
theorem tyok_13 : TyOK Tryz.prog 13 (tys 13) := tyOK_mk ⟨_, Tryz.underlying13, rfl⟩ (.inr ⟨rfl, by kernel_rfl⟩)
theorem tyok_14 : TyOK Tryz.prog 14 (tys 14) := tyOK_mk ⟨_, Tryz.underlying14, rfl⟩ (.inr ⟨rfl, by kernel_rfl⟩)
theorem tyok_15 : TyOK Tryz.prog 15 (tys 15) := tyOK_mk ⟨_, Tryz.underlying15, rfl⟩ (.inr ⟨rfl, by kernel_rfl⟩)
theorem tyok_16 : TyOK Tryz.prog 16 (tys 16) := tyOK_mk ⟨_, Tryz.underlying16, rfl⟩ (.inr ⟨rfl, by kernel_rfl⟩)
theorem tyok_17 : TyOK Tryz.prog 17 (tys 17) := tyOK_mk ⟨_, Tryz.underlying17, rfl⟩ (.inr ⟨rfl, by kernel_rfl⟩)
theorem tyok_18 : TyOK Tryz.prog 18 (tys 18) := tyOK_mk ⟨_, Tryz.underlying18, rfl⟩ (.inl (by kernel_rfl))
theorem tyok_19 : TyOK Tryz.prog 19 (tys 19) := tyOK_mk ⟨_, Tryz.underlying19, rfl⟩ (.inl (by kernel_rfl))
theorem tyok_21 : TyOK Tryz.prog 21 (tys 21) := tyOK_mk Tryz.underlying21 (.inl (by kernel_rfl))
theorem tyok_22 : TyOK Tryz.prog 22 (tys 22) := tyOK_mk Tryz.underlying22 (.inl (by kernel_rfl))
theorem tyok_23 : TyOK Tryz.prog 23 (tys 23) := tyOK_mk ⟨_, Tryz.underlying23, rfl⟩ (.inr ⟨rfl, by kernel_rfl⟩)
theorem tyok_24 : TyOK Tryz.prog 24 (tys 24) := tyOK_mk Tryz.underlying24 (.inl (by kernel_rfl))
theorem tyok_25 : TyOK Tryz.prog 25 (tys 25) := tyOK_mk Tryz.underlying25 (.inl (by kernel_rfl))
theorem tyok_26 : TyOK Tryz.prog 26 (tys 26) := tyOK_mk ⟨_, Tryz.underlying26, rfl⟩ (.inl (by kernel_rfl))
theorem tyok_27 : TyOK Tryz.prog 27 (tys 27) := tyOK_mk ⟨_, Tryz.underlying27, rfl⟩ (.inl (by kernel_rfl))
theorem tyok_28 : TyOK Tryz.prog 28 (tys 28) := tyOK_mk ⟨_, Tryz.underlying28, rfl⟩ (.inr ⟨rfl, by kernel_rfl⟩)
theorem tyok_30 : TyOK Tryz.prog 30 (tys 30) := tyOK_mk ⟨_, Tryz.underlying30, rfl⟩ (.inr ⟨rfl, by kernel_rfl⟩)
theorem tyok_32 : TyOK Tryz.prog 32 (tys 32) := tyOK_mk ⟨_, Tryz.underlying32, rfl⟩ (.inr ⟨rfl, by kernel_rfl⟩)
theorem tyok_33 : TyOK Tryz.prog 33 (tys 33) := tyOK_mk ⟨_, Tryz.underlying33, rfl⟩ (.inr ⟨rfl, by kernel_rfl⟩)
theorem tyok_35 : TyOK Tryz.prog 35 (tys 35) := tyOK_mk ⟨_, Tryz.underlying35, rfl⟩ (.inr ⟨rfl, by kernel_rfl⟩)
theorem tyok_36 : TyOK Tryz.prog 36 (tys 36) := tyOK_mk ⟨_, Tryz.underlying36, rfl⟩ (.inr ⟨rfl, by kernel_rfl⟩)
theorem tyok_38 : TyOK Tryz.prog 38 (tys 38) := tyOK_mk ⟨_, Tryz.underlying38, rfl⟩ (.inr ⟨rfl, by kernel_rfl⟩)
theorem tyok_39 : TyOK Tryz.prog 39 (tys 39) := tyOK_mk ⟨_, Tryz.underlying39, rfl⟩ (.inr ⟨rfl, by kernel_rfl⟩)
theorem tyok_40 : TyOK Tryz.prog 40 (tys 40) := tyOK_mk Tryz.underlying40 (.inl (by kernel_rfl))
theorem tyok_42 : TyOK Tryz.prog 42 (tys 42) := tyOK_mk ⟨_, Tryz.underlying42, rfl⟩ (.inr ⟨rfl, by kernel_rfl⟩)
theorem tyok_43 : TyOK Tryz.prog 43 (tys 43) := tyOK_mk ⟨_, Tryz.underlying43, rfl⟩ (.inr ⟨rfl, by kernel_rfl⟩)
theorem tyok_44 : TyOK Tryz.prog 44 (tys 44) := tyOK_mk Tryz.underlying44 (.inl (by kernel_rfl))
theorem tyok_46 : TyOK Tryz.prog 46 (tys 46) := tyOK_mk ⟨_, Tryz.underlying46, rfl⟩ (.inr ⟨rfl, by kernel_rfl⟩)
theorem tyok_47 : TyOK Tryz.prog 47 (tys 47) := tyOK_mk ⟨_, Tryz.underlying47, rfl⟩ (.inl (by kernel_rfl))
theorem tyok_48 : TyOK Tryz.prog 48 (tys 48) := tyOK_mk ⟨_, Tryz.underlying48, rfl⟩ (.inl (by kernel_rfl))
theorem tyok_50 : TyOK Tryz.prog 50 (tys 50) := tyOK_mk ⟨_, Tryz.underlying50, rfl⟩ (.inr ⟨rfl, by kernel_rfl⟩)
theorem tyok_51 : TyOK Tryz.prog 51 (tys 51) := tyOK_mk ⟨_, Tryz.underlying51, rfl⟩ (.inr ⟨rfl, by kernel_rfl⟩)
theorem tyok_52 : TyOK Tryz.prog 52 (tys 52) := tyOK_mk Tryz.underlying52 (.inl (by kernel_rfl))
theorem tyok_54 : TyOK Tryz.prog 54 (tys 54) := tyOK_mk ⟨_, Tryz.underlying54, rfl⟩ (.inr ⟨rfl, by kernel_rfl⟩)
theorem tyok_55 : TyOK Tryz.prog 55 (tys 55) := tyOK_mk Tryz.underlying55 (.inl (by kernel_rfl))
theorem tyok_57 : TyOK Tryz.prog 57 (tys 57) := tyOK_mk ⟨_, Tryz.underlying57, rfl⟩ (.inr ⟨rfl, by kernel_rfl⟩)
theorem tyok_59 : TyOK Tryz.prog 59 (tys 59) := tyOK_mk ⟨_, Tryz.underlying59, rfl⟩ (.inr ⟨rfl, by kernel_rfl⟩)
theorem tyok_60 : TyOK Tryz.prog 60 (tys 60) := tyOK_mk ⟨_, Tryz.underlying60, rfl⟩ (.inr ⟨rfl, by kernel_rfl⟩)
theorem tyok_61 : TyOK Tryz.prog 61 (tys 61) := tyOK_mk ⟨_, Tryz.underlying61, rfl⟩ (.inr ⟨rfl, by kernel_rfl⟩)
theorem tyok_62 : TyOK Tryz.prog 62 (tys 62) := tyOK_mk ⟨_, Tryz.underlying62, rfl⟩ (.inr ⟨rfl, by kernel_rfl⟩)
theorem tyok_64 : TyOK Tryz.prog 64 (tys 64) := tyOK_mk ⟨_, Tryz.underlying64, rfl⟩ (.inr ⟨rfl, by kernel_rfl⟩)
theorem tyok_65 : TyOK Tryz.prog 65 (tys 65) := tyOK_mk Tryz.underlying65 (.inl (by kernel_rfl))
theorem tyok_66 : TyOK Tryz.prog 66 (tys 66) := tyOK_mk Tryz.underlying66 (.inl (by kernel_rfl))
theorem tyok_68 : TyOK Tryz.prog 68 (tys 68) := tyOK_mk ⟨_, Tryz.underlying68, rfl⟩ (.inr ⟨rfl, by kernel_rfl⟩)
theorem tyok_70 : TyOK Tryz.prog 70 (tys 70) := tyOK_mk ⟨_, Tryz.underlying70, rfl⟩ (.inr ⟨rfl, by kernel_rfl⟩)
theorem tyok_71 : TyOK Tryz.prog 71 (tys 71) := tyOK_mk ⟨_, Tryz.underlying71, rfl⟩ (.inr ⟨rfl, by kernel_rfl⟩)
theorem tyok_72 : TyOK Tryz.prog 72 (tys 72) := tyOK_mk ⟨_, Tryz.underlying72, rfl⟩ (.inr ⟨rfl, by kernel_rfl⟩)
theorem tyok_74 : TyOK Tryz.prog 74 (tys 74) := tyOK_mk ⟨_, Tryz.underlying74, rfl⟩ (.inr ⟨rfl, by kernel_rfl⟩)
theorem tyok_75 : TyOK Tryz.prog 75 (tys 75) := tyOK_mk ⟨_, Tryz.underlying75, rfl⟩ (.inr ⟨rfl, by kernel_rfl⟩)
theorem tyok_77 : TyOK Tryz.prog 77 (tys 77) := tyOK_mk ⟨_, Tryz.underlying77, rfl⟩ (.inr ⟨rfl, by kernel_rfl⟩)
theorem tyok_78 : TyOK Tryz.prog 78 (tys 78) := tyOK_mk ⟨_, Tryz.underlying78, rfl⟩ (.inr ⟨rfl, by kernel_rfl⟩)
theorem tyok_79 : TyOK Tryz.prog 79 (tys 79) := tyOK_mk ⟨_, Tryz.underlying79, rfl⟩ (.inr ⟨rfl, by kernel_rfl⟩)
theorem tyok_80 : TyOK Tryz.prog 80 (tys 80) := tyOK_mk ⟨_, Tryz.underlying80, rfl⟩ (.inr ⟨rfl, by kernel_rfl⟩)
theorem tyok_81 : TyOK Tryz.prog 81 (tys 81) := tyOK_mk ⟨_, Tryz.underlying81, rfl⟩ (.inr ⟨rfl, by kernel_rfl⟩)
theorem tyok_82 : TyOK Tryz.prog 82 (tys 82) := tyOK_mk ⟨_, Tryz.underlying82, rfl⟩ (.inr ⟨rfl, by kernel_rfl⟩)
theorem tyok_83 : TyOK Tryz.prog 83 (tys 83) := tyOK_mk Tryz.underlying83 (.inl (by kernel_rfl))
theorem tyok_84 : TyOK Tryz.prog 84 (tys 84) := tyOK_mk ⟨_, Tryz.underlying84, rfl⟩ (.inl (by kernel_rfl))
theorem tyok_85 : TyOK Tryz.prog 85 (tys 85) := tyOK_mk ⟨_, Tryz.underlying85, rfl⟩ (.inl (by kernel_rfl))
theorem tyok_86 : TyOK Tryz.prog 86 (tys 86) := tyOK_mk ⟨_, Tryz.underlying86, rfl⟩ (.inr ⟨rfl, by kernel_rfl⟩)
theorem tyok_87 : TyOK Tryz.prog 87 (tys 87) := tyOK_mk ⟨_, Tryz.underlying87, rfl⟩ (.inr ⟨rfl, by kernel_rfl⟩)
theorem tyok_88 : TyOK Tryz.prog 88 (tys 88) := tyOK_mk ⟨_, Tryz.underlying88, rfl⟩ (.inr ⟨rfl, by kernel_rfl⟩)
theorem tyok_89 : TyOK Tryz.prog 89 (tys 89) := tyOK_mk ⟨_, Tryz.underlying89, rfl⟩ (.inr ⟨rfl, by kernel_rfl⟩)
theorem tyok_90 : TyOK Tryz.prog 90 (tys 90) := tyOK_mk ⟨_, Tryz.underlying90, rfl⟩ (.inr ⟨rfl, by kernel_rfl⟩)
theorem tyok_91 : TyOK Tryz.prog 91 (tys 91) := tyOK_mk ⟨_, Tryz.underlying91, rfl⟩ (.inr ⟨rfl, by kernel_rfl⟩)
theorem tyok_92 : TyOK Tryz.prog 92 (tys 92) := tyOK_mk ⟨_, Tryz.underlying92, rfl⟩ (.inr ⟨rfl, by kernel_rfl⟩)
theorem tyok_93 : TyOK Tryz.prog 93 (tys 93) := tyOK_mk ⟨_, Tryz.underlying93, rfl⟩ (.inr ⟨rfl, by kernel_rfl⟩)
theorem tyok_94 : TyOK Tryz.prog 94 (tys 94) := tyOK_mk ⟨_, Tryz.underlying94, rfl⟩ (.inr ⟨rfl, by kernel_rfl⟩)
theorem tyok_95 : TyOK Tryz.prog 95 (tys 95) := tyOK_mk Tryz.underlying95 (.inr ⟨rfl, by kernel_rfl⟩)
theorem tyok_96 : TyOK Tryz.prog 96 (tys 96) := tyOK_mk ⟨_, Tryz.underlying96, rfl⟩ (.inl (by kernel_rfl))
theorem tyok_97 : TyOK Tryz.prog 97 (tys 97) := tyOK_mk ⟨_, Tryz.underlying97, rfl⟩ (.inl (by kernel_rfl))
theorem tyok_98 : TyOK Tryz.prog 98 (tys 98) := tyOK_mk Tryz.underlying98 (.inl (by kernel_rfl))
theorem tyok_99 : TyOK Tryz.prog 99 (tys 99) := tyOK_mk ⟨_, Tryz.underlying99, rfl⟩ (.inl (by kernel_rfl))
theorem tyok_100 : TyOK Tryz.prog 100 (tys 100) := tyOK_mk ⟨_, Tryz.underlying100, rfl⟩ (.inl (by kernel_rfl))
theorem tyok_102 : TyOK Tryz.prog 102 (tys 102) := tyOK_mk ⟨_, Tryz.underlying102, rfl⟩ (.inr ⟨rfl, by kernel_rfl⟩)
theorem tyok_103 : TyOK Tryz.prog 103 (tys 103) := tyOK_mk ⟨_, Tryz.underlying103, rfl⟩ (.inr ⟨rfl, by kernel_rfl⟩)
theorem tyok_104 : TyOK Tryz.prog 104 (tys 104) := tyOK_mk ⟨_, Tryz.underlying104, rfl⟩ (.inr ⟨rfl, by kernel_rfl⟩)
theorem tyok_105 : TyOK Tryz.prog 105 (tys 105) := tyOK_mk ⟨_, Tryz.underlying105, rfl⟩ (.inr ⟨rfl, by kernel_rfl⟩)
theorem tyok_106 : TyOK Tryz.prog 106 (tys 106) := tyOK_mk ⟨_, Tryz.underlying106, rfl⟩ (.inr ⟨rfl, by kernel_rfl⟩)
theorem tyok_107 : TyOK Tryz.prog 107 (tys 107) := tyOK_mk ⟨_, Tryz.underlying107, rfl⟩ (.inr ⟨rfl, by kernel_rfl⟩)
theorem tyok_108 : TyOK Tryz.prog 108 (tys 108) := tyOK_mk ⟨_, Tryz.underlying108, rfl⟩ (.inr ⟨rfl, by kernel_rfl⟩)
theorem tyok_109 : TyOK Tryz.prog 109 (tys 109) := tyOK_mk ⟨_, Tryz.underlying109, rfl⟩ (.inr ⟨rfl, by kernel_rfl⟩)
theorem tyok_110 : TyOK Tryz.prog 110 (tys 110) := tyOK_mk ⟨_, Tryz.underlying110, rfl⟩ (.inr ⟨rfl, by kernel_rfl⟩)
theorem tyok_111 : TyOK Tryz.prog 111 (tys 111) := tyOK_mk ⟨_, Tryz.underlying111, rfl⟩ (.inr ⟨rfl, by kernel_rfl⟩)
theorem tyok_112 : TyOK Tryz.prog 112 (tys 112) := tyOK_mk ⟨_, Tryz.underlying112, rfl⟩ (.inr ⟨rfl, by kernel_rfl⟩)
theorem tyok_113 : TyOK Tryz.prog 113 (tys 113) := tyOK_mk ⟨_, Tryz.underlying113, rfl⟩ (.inr ⟨rfl, by kernel_rfl⟩)
theorem tyok_114 : TyOK Tryz.prog 114 (tys 114) := tyOK_mk Tryz.underlying114 (.inr ⟨rfl, by kernel_rfl⟩)
theorem tyok_115 : TyOK Tryz.prog 115 (tys 115) := tyOK_mk ⟨_, Tryz.underlying115, rfl⟩ (.inr ⟨rfl, by kernel_rfl⟩)
theorem tyok_116 : TyOK Tryz.prog 116 (tys 116) := tyOK_mk ⟨_, Tryz.underlying116, rfl⟩ (.inr ⟨rfl, by kernel_rfl⟩)
theorem tyok_117 : TyOK Tryz.prog 117 (tys 117) := tyOK_mk ⟨_, Tryz.underlying117, rfl⟩ (.inr ⟨rfl, by kernel_rfl⟩)
theorem tyok_118 : TyOK Tryz.prog 118 (tys 118) := tyOK_mk ⟨_, Tryz.underlying118, rfl⟩ (.inr ⟨rfl, by kernel_rfl⟩)
theorem tyok_119 : TyOK Tryz.prog 119 (tys 119) := tyOK_mk ⟨_, Tryz.underlying119, rfl⟩ (.inr ⟨rfl, by kernel_rfl⟩)
theorem tyok_120 : TyOK Tryz.prog 120 (tys 120) := tyOK_mk ⟨_, Tryz.underlying120, rfl⟩ (.inr ⟨rfl, by kernel_rfl⟩)
theorem tyok_121 : TyOK Tryz.prog 121 (tys 121) := tyOK_mk ⟨_, Tryz.underlying121, rfl⟩ (.inr ⟨rfl, by kernel_rfl⟩)
theorem tyok_122 : TyOK Tryz.prog 122 (tys 122) := tyOK_mk ⟨_, Tryz.underlying122, rfl⟩ (.inr ⟨rfl, by kernel_rfl⟩)
theorem tyok_123 : TyOK Tryz.prog 123 (tys 123) := tyOK_mk ⟨_, Tryz.underlying123, rfl⟩ (.inr ⟨rfl, by kernel_rfl⟩)
theorem tyok_124 : TyOK Tryz.prog 124 (tys 124) := tyOK_mk ⟨_, Tryz.underlying124, rfl⟩ (.inr ⟨rfl, by kernel_rfl⟩)
theorem tyok_125 : TyOK Tryz.prog 125 (tys 125) := tyOK_mk ⟨_, Tryz.underlying125, rfl⟩ (.inr ⟨rfl, by kernel_rfl⟩)
theorem tyok_127 : TyOK Tryz.prog 127 (tys 127) := tyOK_mk ⟨_, Tryz.underlying127, rfl⟩ (.inr ⟨rfl, by kernel_rfl⟩)
theorem tyok_128 : TyOK Tryz.prog 128 (tys 128) := tyOK_mk ⟨_, Tryz.underlying128, rfl⟩ (.inl (by kernel_rfl))
theorem tyok_129 : TyOK Tryz.prog 129 (tys 129) := tyOK_mk ⟨_, Tryz.underlying129, rfl⟩ (.inl (by kernel_rfl))
theorem tyok_130 : TyOK Tryz.prog 130 (tys 130) := tyOK_mk ⟨_, Tryz.underlying130, rfl⟩ (.inr ⟨rfl, by kernel_rfl⟩)
theorem tyok_131 : TyOK Tryz.prog 131 (tys 131) := tyOK_mk Tryz.underlying131 (.inl (by kernel_rfl))
theorem tyok_132 : TyOK Tryz.prog 132 (tys 132) := tyOK_mk ⟨_, Tryz.underlying132, rfl⟩ (.inr ⟨rfl, by kernel_rfl⟩)
theorem tyok_133 : TyOK Tryz.prog 133 (tys 133) := tyOK_mk ⟨_, Tryz.underlying133, rfl⟩ (.inr ⟨rfl, by kernel_rfl⟩)
theorem tyok_134 : TyOK Tryz.prog 134 (tys 134) := tyOK_mk ⟨_, Tryz.underlying134, rfl⟩ (.inr ⟨rfl, by kernel_rfl⟩)
theorem tyok_135 : TyOK Tryz.prog 135 (tys 135) := tyOK_mk ⟨_, Tryz.underlying135, rfl⟩ (.inr ⟨rfl, by kernel_rfl⟩)
theorem tyok_136 : TyOK Tryz.prog 136 (tys 136) := tyOK_mk ⟨_, Tryz.underlying136, rfl⟩ (.inr ⟨rfl, by kernel_rfl⟩)
theorem tyok_137 : TyOK Tryz.prog 137 (tys 137) := tyOK_mk ⟨_, Tryz.underlying137, rfl⟩ (.inr ⟨rfl, by kernel_rfl⟩)
theorem tyok_138 : TyOK Tryz.prog 138 (tys 138) := tyOK_mk ⟨_, Tryz.underlying138, rfl⟩ (.inr ⟨rfl, by kernel_rfl⟩)
theorem tyok_139 : TyOK Tryz.prog 139 (tys 139) := tyOK_mk ⟨_, Tryz.underlying139, rfl⟩ (.inr ⟨rfl, by kernel_rfl⟩)
theorem tyok_141 : TyOK Tryz.prog 141 (tys 141) := tyOK_mk ⟨_, Tryz.underlying141, rfl⟩ (.inr ⟨rfl, by kernel_rfl⟩)
theorem tyok_142 : TyOK Tryz.prog 142 (tys 142) := tyOK_mk ⟨_, Tryz.underlying142, rfl⟩ (.inr ⟨rfl, by kernel_rfl⟩)
theorem tyok_143 : TyOK Tryz.prog 143 (tys 143) := tyOK_mk ⟨_, Tryz.underlying143, rfl⟩ (.inr ⟨rfl, by kernel_rfl⟩)
theorem tyok_144 : TyOK Tryz.prog 144 (tys 144) := tyOK_mk ⟨_, Tryz.underlying144, rfl⟩ (.inr ⟨rfl, by kernel_rfl⟩)
theorem tyok_145 : TyOK Tryz.prog 145 (tys 145) := tyOK_mk ⟨_, Tryz.underlying145, rfl⟩ (.inr ⟨rfl, by kernel_rfl⟩)
theorem tyok_146 : TyOK Tryz.prog 146 (tys 146) := tyOK_mk ⟨_, Tryz.underlying146, rfl⟩ (.inr ⟨rfl, by kernel_rfl⟩)
theorem tyok_147 : TyOK Tryz.prog 147 (tys 147) := tyOK_mk ⟨_, Tryz.underlying147, rfl⟩ (.inr ⟨rfl, by kernel_rfl⟩)
theorem tyok_148 : TyOK Tryz.prog 148 (tys 148) := tyOK_mk ⟨_, Tryz.underlying148, rfl⟩ (.inr ⟨rfl, by kernel_rfl⟩)
theorem tyok_149 : TyOK Tryz.prog 149 (tys 149) := tyOK_mk ⟨_, Tryz.underlying149, rfl⟩ (.inr ⟨rfl, by kernel_rfl⟩)
theorem tyok_150 : TyOK Tryz.prog 150 (tys 150) := tyOK_mk ⟨_, Tryz.underlying150, rfl⟩ (.inr ⟨rfl, by kernel_rfl⟩)
theorem tyok_151 : TyOK Tryz.prog 151 (tys 151) := tyOK_mk ⟨_, Tryz.underlying151, rfl⟩ (.inr ⟨rfl, by kernel_rfl⟩)
theorem tyok_152 : TyOK Tryz.prog 152 (tys 152) := tyOK_mk Tryz.underlying152 (.inl (by kernel_rfl))
theorem tyok_153 : TyOK Tryz.prog 153 (tys 153) := tyOK_mk ⟨_, Tryz.underlying153, rfl⟩ (.inr ⟨rfl, by kernel_rfl⟩)
theorem tyok_154 : TyOK Tryz.prog 154 (tys 154) := tyOK_mk ⟨_, Tryz.underlying154, rfl⟩ (.inr ⟨rfl, by kernel_rfl⟩)
theorem tyok_155 : TyOK Tryz.prog 155 (tys 155) := tyOK_mk ⟨_, Tryz.underlying155, rfl⟩ (.inr ⟨rfl, by kernel_rfl⟩)
theorem tyok_156 : TyOK Tryz.prog 156 (tys 156) := tyOK_mk Tryz.underlying156 (.inl (by kernel_rfl))
theorem tyok_157 : TyOK Tryz.prog 157 (tys 157) := tyOK_mk ⟨_, Tryz.underlying157, rfl⟩ (.inr ⟨rfl, by kernel_rfl⟩)
theorem tyok_158 : TyOK Tryz.prog 158 (tys 158) := tyOK_mk ⟨_, Tryz.underlying158, rfl⟩ (.inr ⟨rfl, by kernel_rfl⟩)
theorem tyok_159 : TyOK Tryz.prog 159 (tys 159) := tyOK_mk ⟨_, Tryz.underlying159, rfl⟩ (.inr ⟨rfl, by kernel_rfl⟩)
theorem tyok_160 : TyOK Tryz.prog 160 (tys 160) := tyOK_mk ⟨_, Tryz.underlying160, rfl⟩ (.inr ⟨rfl, by kernel_rfl⟩)
theorem tyok_161 : TyOK Tryz.prog 161 (tys 161) := tyOK_mk ⟨_, Tryz.underlying161, rfl⟩ (.inr ⟨rfl, by kernel_rfl⟩)
theorem tyok_162 : TyOK Tryz.prog 162 (tys 162) := tyOK_mk ⟨_, Tryz.underlying162, rfl⟩ (.inr ⟨rfl, by kernel_rfl⟩)
theorem tyok_163 : TyOK Tryz.prog 163 (tys 163) := tyOK_mk ⟨_, Tryz.underlying163, rfl⟩ (.inr ⟨rfl, by kernel_rfl⟩)
theorem tyok_164 : TyOK Tryz.prog 164 (tys 164) := tyOK_mk ⟨_, Tryz.underlying164, rfl⟩ (.inr ⟨rfl, by kernel_rfl⟩)
theorem tyok_165 : TyOK Tryz.prog 165 (tys 165) := tyOK_mk ⟨_, Tryz.underlying165, rfl⟩ (.inr ⟨rfl, by kernel_rfl⟩)
theorem tyok_166 : TyOK Tryz.prog 166 (tys 166) := tyOK_mk Tryz.underlying166 (.inl (by kernel_rfl))
theorem tyok_168 : TyOK Tryz.prog 168 (tys 168) := tyOK_mk ⟨_, Tryz.underlying168, rfl⟩ (.inr ⟨rfl, by kernel_rfl⟩)
theorem tyok_169 : TyOK Tryz.prog 169 (tys 169) := tyOK_mk ⟨_, Tryz.underlying169, rfl⟩ (.inr ⟨rfl, by kernel_rfl⟩)
theorem tyok_170 : TyOK Tryz.prog 170 (tys 170) := tyOK_mk ⟨_, Tryz.underlying170, rfl⟩ (.inr ⟨rfl, by kernel_rfl⟩)
theorem tyok_171 : TyOK Tryz.prog 171 (tys 171) := tyOK_mk ⟨_, Tryz.underlying171, rfl⟩ (.inr ⟨rfl, by kernel_rfl⟩)
theorem tyok_172 : TyOK Tryz.prog 172 (tys 172) := tyOK_mk ⟨_, Tryz.underlying172, rfl⟩ (.inr ⟨rfl, by kernel_rfl⟩)
theorem tyok_173 : TyOK Tryz.prog 173 (tys 173) := tyOK_mk Tryz.underlying173 (.inl (by kernel_rfl))
theorem tyok_174 : TyOK Tryz.prog 174 (tys 174) := tyOK_mk ⟨_, Tryz.underlying174, rfl⟩ (.inr ⟨rfl, by kernel_rfl⟩)
theorem tyok_175 : TyOK Tryz.prog 175 (tys 175) := tyOK_mk ⟨_, Tryz.underlying175, rfl⟩ (.inr ⟨rfl, by kernel_rfl⟩)
theorem tyok_176 : TyOK Tryz.prog 176 (tys 176) := tyOK_mk ⟨_, Tryz.underlying176, rfl⟩ (.inr ⟨rfl, by kernel_rfl⟩)
theorem tyok_177 : TyOK Tryz.prog 177 (tys 177) := tyOK_mk ⟨_, Tryz.underlying177, rfl⟩ (.inr ⟨rfl, by kernel_rfl⟩)
theorem tyok_178 : TyOK Tryz.prog 178 (tys 178) := tyOK_mk ⟨_, Tryz.underlying178, rfl⟩ (.inr ⟨rfl, by kernel_rfl⟩)
theorem tyok_179 : TyOK Tryz.prog 179 (tys 179) := tyOK_mk ⟨_, Tryz.underlying179, rfl⟩ (.inr ⟨rfl, by kernel_rfl⟩)
theorem tyok_180 : TyOK Tryz.prog 180 (tys 180) := tyOK_mk ⟨_, Tryz.underlying180, rfl⟩ (.inr ⟨rfl, by kernel_rfl⟩)
theorem tyok_181 : TyOK Tryz.prog 181 (tys 181) := tyOK_mk ⟨_, Tryz.underlying181, rfl⟩ (.inr ⟨rfl, by kernel_rfl⟩)
theorem tyok_182 : TyOK Tryz.prog 182 (tys 182) := tyOK_mk Tryz.underlying182 (.inl (by kernel_rfl))
theorem tyok_183 : TyOK Tryz.prog 183 (tys 183) := tyOK_mk ⟨_, Tryz.underlying183, rfl⟩ (.inr ⟨rfl, by kernel_rfl⟩)
theorem tyok_184 : TyOK Tryz.prog 184 (tys 184) := tyOK_mk ⟨_, Tryz.underlying184, rfl⟩ (.inr ⟨rfl, by kernel_rfl⟩)
theorem tyok_185 : TyOK Tryz.prog 185 (tys 185) := tyOK_mk ⟨_, Tryz.underlying185, rfl⟩ (.inr ⟨rfl, by kernel_rfl⟩)
theorem tyok_186 : TyOK Tryz.prog 186 (tys 186) := tyOK_mk ⟨_, Tryz.underlying186, rfl⟩ (.inr ⟨rfl, by kernel_rfl⟩)
theorem tyok_187 : TyOK Tryz.prog 187 (tys 187) := tyOK_mk ⟨_, Tryz.underlying187, rfl⟩ (.inr ⟨rfl, by kernel_rfl⟩)
theorem tyok_188 : TyOK Tryz.prog 188 (tys 188) := tyOK_mk ⟨_, Tryz.underlying188, rfl⟩ (.inr ⟨rfl, by kernel_rfl⟩)
theorem tyok_189 : TyOK Tryz.prog 189 (tys 189) := tyOK_mk ⟨_, Tryz.underlying189, rfl⟩ (.inr ⟨rfl, by kernel_rfl⟩)
theorem tyok_190 : TyOK Tryz.prog 190 (tys 190) := tyOK_mk ⟨_, Tryz.underlying190, rfl⟩ (.inr ⟨rfl, by kernel_rfl⟩)
theorem tyok_191 : TyOK Tryz.prog 191 (tys 191) := tyOK_mk ⟨_, Tryz.underlying191, rfl⟩ (.inr ⟨rfl, by kernel_rfl⟩)
theorem tyok_192 : TyOK Tryz.prog 192 (tys 192) := tyOK_mk ⟨_, Tryz.underlying192, rfl⟩ (.inr ⟨rfl, by kernel_rfl⟩)
theorem tyok_193 : TyOK Tryz.prog 193 (tys 193) := tyOK_mk ⟨_, Tryz.underlying193, rfl⟩ (.inr ⟨rfl, by kernel_rfl⟩)
theorem tyok_194 : TyOK Tryz.prog 194 (tys 194) := tyOK_mk ⟨_, Tryz.underlying194, rfl⟩ (.inr ⟨rfl, by kernel_rfl⟩)
theorem tyok_195 : TyOK Tryz.prog 195 (tys 195) := tyOK_mk ⟨_, Tryz.underlying195, rfl⟩ (.inr ⟨rfl, by kernel_rfl⟩)
theorem tyok_196 : TyOK Tryz.prog 196 (tys 196) := tyOK_mk Tryz.underlying196 (.inr ⟨rfl, by kernel_rfl⟩)
theorem tyok_197 : TyOK Tryz.prog 197 (tys 197) := tyOK_mk ⟨_, Tryz.underlying197, rfl⟩ (.inr ⟨rfl, by kernel_rfl⟩)
theorem tyok_198 : TyOK Tryz.prog 198 (tys 198) := tyOK_mk ⟨_, Tryz.underlying198, rfl⟩ (.inr ⟨rfl, by kernel_rfl⟩)
theorem tyok_199 : TyOK Tryz.prog 199 (tys 199) := tyOK_mk Tryz.underlying199 (.inl (by kernel_rfl))
theorem tyok_200 : TyOK Tryz.prog 200 (tys 200) := tyOK_mk Tryz.underlying200 (.inl (by kernel_rfl))
theorem tyok_201 : TyOK Tryz.prog 201 (tys 201) := tyOK_mk ⟨_, Tryz.underlying201, rfl⟩ (.inr ⟨rfl, by kernel_rfl⟩)
theorem tyok_202 : TyOK Tryz.prog 202 (tys 202) := tyOK_mk ⟨_, Tryz.underlying202, rfl⟩ (.inr ⟨rfl, by kernel_rfl⟩)
theorem tyok_203 : TyOK Tryz.prog 203 (tys 203) := tyOK_mk Tryz.underlying203 (.inl (by kernel_rfl))
theorem tyok_204 : TyOK Tryz.prog 204 (tys 204) := tyOK_mk Tryz.underlying204 (.inl (by kernel_rfl))
theorem tyok_205 : TyOK Tryz.prog 205 (tys 205) := tyOK_mk ⟨_, Tryz.underlying205, rfl⟩ (.inr ⟨rfl, by kernel_rfl⟩)
theorem tyok_206 : TyOK Tryz.prog 206 (tys 206) := tyOK_mk ⟨_, Tryz.underlying206, rfl⟩ (.inr ⟨rfl, by kernel_rfl⟩)
theorem tyok_other (t : Nat) (h : (tys t).k = .other) : TyOK Tryz.prog t (tys t) := ⟨by rw [h]; trivial, fun h' => absurd h h'⟩
theorem TYB : type_of% (
  And.intro @ty_1 <|
  And.intro @ty_2 <|
  And.intro @ty_3 <|
  And.intro @ty_4 <|
  And.intro @ty_5 <|
  And.intro @ty_6 <|
  And.intro @ty_7 <|
  And.intro @ty_8 <|
  And.intro @ty_12 <|
  And.intro @ty_13 <|
  And.intro @ty_14 <|
  And.intro @ty_15 <|
  And.intro @ty_16 <|
  And.intro @ty_17 <|
  And.intro @ty_18 <|
  And.intro @ty_19 <|
  And.intro @ty_21 <|
  And.intro @ty_22 <|
  And.intro @ty_23 <|
  And.intro @ty_24 <|
  And.intro @ty_25 <|
  And.intro @ty_26 <|
  And.intro @ty_27 <|
  And.intro @ty_28 <|
  And.intro @ty_30 <|
  And.intro @ty_32 <|
  And.intro @ty_33 <|
  And.intro @ty_35 <|
  And.intro @ty_36 <|
  And.intro @ty_38 <|
  And.intro @ty_39 <|
  And.intro @ty_40 <|
  And.intro @ty_42 <|
  And.intro @ty_43 <|
  And.intro @ty_44 <|
  And.intro @ty_46 <|
  And.intro @ty_47 <|
  And.intro @ty_48 <|
  And.intro @ty_50 <|
  And.intro @ty_51 <|
  And.intro @ty_52 <|
  And.intro @ty_54 <|
  And.intro @ty_55 <|
  And.intro @ty_57 <|
  And.intro @ty_59 <|
  And.intro @ty_60 <|
  And.intro @ty_61 <|
  And.intro @ty_62 <|
  And.intro @ty_64 <|
  And.intro @ty_65 <|
  And.intro @ty_66 <|
  And.intro @ty_68 <|
  And.intro @ty_70 <|
  And.intro @ty_71 <|
  And.intro @ty_72 <|
  And.intro @ty_74 <|
  And.intro @ty_75 <|
  And.intro @ty_77 <|
  And.intro @ty_78 <|
  And.intro @ty_79 <|
  And.intro @ty_80 <|
  And.intro @ty_81 <|
  And.intro @ty_82 <|
  And.intro @ty_83 <|
  And.intro @ty_84 <|
  And.intro @ty_85 <|
  And.intro @ty_86 <|
  And.intro @ty_87 <|
  And.intro @ty_88 <|
  And.intro @ty_89 <|
  And.intro @ty_90 <|
  And.intro @ty_91 <|
  And.intro @ty_92 <|
  And.intro @ty_93 <|
  And.intro @ty_94 <|
  And.intro @ty_95 <|
  And.intro @ty_96 <|
  And.intro @ty_97 <|
  And.intro @ty_98 <|
  And.intro @ty_99 <|
  And.intro @ty_100 <|
  And.intro @ty_102 <|
  And.intro @ty_103 <|
  And.intro @ty_104 <|
  And.intro @ty_105 <|
  And.intro @ty_106 <|
  And.intro @ty_107 <|
  And.intro @ty_108 <|
  And.intro @ty_109 <|
  And.intro @ty_110 <|
  And.intro @ty_111 <|
  And.intro @ty_112 <|
  And.intro @ty_113 <|
  And.intro @ty_114 <|
  And.intro @ty_115 <|
  And.intro @ty_116 <|
  And.intro @ty_117 <|
  And.intro @ty_118 <|
  And.intro @ty_119 <|
  And.intro @ty_120 <|
  And.intro @ty_121 <|
  And.intro @ty_122 <|
  And.intro @ty_123 <|
  And.intro @ty_124 <|
  And.intro @ty_125 <|
  And.intro @ty_127 <|
  And.intro @ty_128 <|
  And.intro @ty_129 <|
  And.intro @ty_130 <|
  And.intro @ty_131 <|
  And.intro @ty_132 <|
  And.intro @ty_133 <|
  And.intro @ty_134 <|
  And.intro @ty_135 <|
  And.intro @ty_136 <|
  And.intro @ty_137 <|
  And.intro @ty_138 <|
  And.intro @ty_139 <|
  And.intro @ty_141 <|
  And.intro @ty_142 <|
  And.intro @ty_143 <|
  And.intro @ty_144 <|
  And.intro @ty_145 <|
  And.intro @ty_146 <|
  And.intro @ty_147 <|
  And.intro @ty_148 <|
  And.intro @ty_149 <|
  And.intro @ty_150 <|
  And.intro @ty_151 <|
  And.intro @ty_152 <|
  And.intro @ty_153 <|
  And.intro @ty_154 <|
  And.intro @ty_155 <|
  And.intro @ty_156 <|
  And.intro @ty_157 <|
  And.intro @ty_158 <|
  And.intro @ty_159 <|
  And.intro @ty_160 <|
  And.intro @ty_161 <|
  And.intro @ty_162 <|
  And.intro @ty_163 <|
  And.intro @ty_164 <|
  And.intro @ty_165 <|
  And.intro @ty_166 <|
  And.intro @ty_168 <|
  And.intro @ty_169 <|
  And.intro @ty_170 <|
  And.intro @ty_171 <|
  And.intro @ty_172 <|
  And.intro @ty_173 <|
  And.intro @ty_174 <|
  And.intro @ty_175 <|
  And.intro @ty_176 <|
  And.intro @ty_177 <|
  And.intro @ty_178 <|
  And.intro @ty_179 <|
  And.intro @ty_180 <|
  And.intro @ty_181 <|
  And.intro @ty_182 <|
  And.intro @ty_183 <|
  And.intro @ty_184 <|
  And.intro @ty_185 <|
  And.intro @ty_186 <|
  And.intro @ty_187 <|
  And.intro @ty_188 <|
  And.intro @ty_189 <|
  And.intro @ty_190 <|
  And.intro @ty_191 <|
  And.intro @ty_192 <|
  And.intro @ty_193 <|
  And.intro @ty_194 <|
  And.intro @ty_195 <|
  And.intro @ty_196 <|
  And.intro @ty_197 <|
  And.intro @ty_198 <|
  And.intro @ty_199 <|
  And.intro @ty_200 <|
  And.intro @ty_201 <|
  And.intro @ty_202 <|
  And.intro @ty_203 <|
  And.intro @ty_204 <|
  And.intro @ty_205 <| @ty_206) :=
  And.intro @ty_1 <|
  And.intro @ty_2 <|
  And.intro @ty_3 <|
  And.intro @ty_4 <|
  And.intro @ty_5 <|
  And.intro @ty_6 <|
  And.intro @ty_7 <|
  And.intro @ty_8 <|
  And.intro @ty_12 <|
  And.intro @ty_13 <|
  And.intro @ty_14 <|
  And.intro @ty_15 <|
  And.intro @ty_16 <|
  And.intro @ty_17 <|
  And.intro @ty_18 <|
  And.intro @ty_19 <|
  And.intro @ty_21 <|
  And.intro @ty_22 <|
  And.intro @ty_23 <|
  And.intro @ty_24 <|
  And.intro @ty_25 <|
  And.intro @ty_26 <|
  And.intro @ty_27 <|
  And.intro @ty_28 <|
  And.intro @ty_30 <|
  And.intro @ty_32 <|
  And.intro @ty_33 <|
  And.intro @ty_35 <|
  And.intro @ty_36 <|
  And.intro @ty_38 <|
  And.intro @ty_39 <|
  And.intro @ty_40 <|
  And.intro @ty_42 <|
  And.intro @ty_43 <|
  And.intro @ty_44 <|
  And.intro @ty_46 <|
  And.intro @ty_47 <|
  And.intro @ty_48 <|
  And.intro @ty_50 <|
  And.intro @ty_51 <|
  And.intro @ty_52 <|
  And.intro @ty_54 <|
  And.intro @ty_55 <|
  And.intro @ty_57 <|
  And.intro @ty_59 <|
  And.intro @ty_60 <|
  And.intro @ty_61 <|
  And.intro @ty_62 <|
  And.intro @ty_64 <|
  And.intro @ty_65 <|
  And.intro @ty_66 <|
  And.intro @ty_68 <|
  And.intro @ty_70 <|
  And.intro @ty_71 <|
  And.intro @ty_72 <|
  And.intro @ty_74 <|
  And.intro @ty_75 <|
  And.intro @ty_77 <|
  And.intro @ty_78 <|
  And.intro @ty_79 <|
  And.intro @ty_80 <|
  And.intro @ty_81 <|
  And.intro @ty_82 <|
  And.intro @ty_83 <|
  And.intro @ty_84 <|
  And.intro @ty_85 <|
  And.intro @ty_86 <|
  And.intro @ty_87 <|
  And.intro @ty_88 <|
  And.intro @ty_89 <|
  And.intro @ty_90 <|
  And.intro @ty_91 <|
  And.intro @ty_92 <|
  And.intro @ty_93 <|
  And.intro @ty_94 <|
  And.intro @ty_95 <|
  And.intro @ty_96 <|
  And.intro @ty_97 <|
  And.intro @ty_98 <|
  And.intro @ty_99 <|
  And.intro @ty_100 <|
  And.intro @ty_102 <|
  And.intro @ty_103 <|
  And.intro @ty_104 <|
  And.intro @ty_105 <|
  And.intro @ty_106 <|
  And.intro @ty_107 <|
  And.intro @ty_108 <|
  And.intro @ty_109 <|
  And.intro @ty_110 <|
  And.intro @ty_111 <|
  And.intro @ty_112 <|
  And.intro @ty_113 <|
  And.intro @ty_114 <|
  And.intro @ty_115 <|
  And.intro @ty_116 <|
  And.intro @ty_117 <|
  And.intro @ty_118 <|
  And.intro @ty_119 <|
  And.intro @ty_120 <|
  And.intro @ty_121 <|
  And.intro @ty_122 <|
  And.intro @ty_123 <|
  And.intro @ty_124 <|
  And.intro @ty_125 <|
  And.intro @ty_127 <|
  And.intro @ty_128 <|
  And.intro @ty_129 <|
  And.intro @ty_130 <|
  And.intro @ty_131 <|
  And.intro @ty_132 <|
  And.intro @ty_133 <|
  And.intro @ty_134 <|
  And.intro @ty_135 <|
  And.intro @ty_136 <|
  And.intro @ty_137 <|
  And.intro @ty_138 <|
  And.intro @ty_139 <|
  And.intro @ty_141 <|
  And.intro @ty_142 <|
  And.intro @ty_143 <|
  And.intro @ty_144 <|
  And.intro @ty_145 <|
  And.intro @ty_146 <|
  And.intro @ty_147 <|
  And.intro @ty_148 <|
  And.intro @ty_149 <|
  And.intro @ty_150 <|
  And.intro @ty_151 <|
  And.intro @ty_152 <|
  And.intro @ty_153 <|
  And.intro @ty_154 <|
  And.intro @ty_155 <|
  And.intro @ty_156 <|
  And.intro @ty_157 <|
  And.intro @ty_158 <|
  And.intro @ty_159 <|
  And.intro @ty_160 <|
  And.intro @ty_161 <|
  And.intro @ty_162 <|
  And.intro @ty_163 <|
  And.intro @ty_164 <|
  And.intro @ty_165 <|
  And.intro @ty_166 <|
  And.intro @ty_168 <|
  And.intro @ty_169 <|
  And.intro @ty_170 <|
  And.intro @ty_171 <|
  And.intro @ty_172 <|
  And.intro @ty_173 <|
  And.intro @ty_174 <|
  And.intro @ty_175 <|
  And.intro @ty_176 <|
  And.intro @ty_177 <|
  And.intro @ty_178 <|
  And.intro @ty_179 <|
  And.intro @ty_180 <|
  And.intro @ty_181 <|
  And.intro @ty_182 <|
  And.intro @ty_183 <|
  And.intro @ty_184 <|
  And.intro @ty_185 <|
  And.intro @ty_186 <|
  And.intro @ty_187 <|
  And.intro @ty_188 <|
  And.intro @ty_189 <|
  And.intro @ty_190 <|
  And.intro @ty_191 <|
  And.intro @ty_192 <|
  And.intro @ty_193 <|
  And.intro @ty_194 <|
  And.intro @ty_195 <|
  And.intro @ty_196 <|
  And.intro @ty_197 <|
  And.intro @ty_198 <|
  And.intro @ty_199 <|
  And.intro @ty_200 <|
  And.intro @ty_201 <|
  And.intro @ty_202 <|
  And.intro @ty_203 <|
  And.intro @ty_204 <|
  And.intro @ty_205 <| @ty_206
theorem tys_ok : TysOK Tryz.prog tys := by
  intro t
  match t with
  | 1 => exact tyok_1
  | 2 => exact tyok_2
  | 3 => exact tyok_3
  | 4 => exact tyok_4
  | 5 => exact tyok_5
  | 6 => exact tyok_6
  | 7 => exact tyok_7
  | 8 => exact tyok_8
  | 12 => exact tyok_12
  | 13 => exact tyok_13
  | 14 => exact tyok_14
  | 15 => exact tyok_15
  | 16 => exact tyok_16
  | 17 => exact tyok_17
  | 18 => exact tyok_18
  | 19 => exact tyok_19
  | 21 => exact tyok_21
  | 22 => exact tyok_22
  | 23 => exact tyok_23
  | 24 => exact tyok_24
  | 25 => exact tyok_25
  | 26 => exact tyok_26
  | 27 => exact tyok_27
  | 28 => exact tyok_28
  | 30 => exact tyok_30
  | 32 => exact tyok_32
  | 33 => exact tyok_33
  | 35 => exact tyok_35
  | 36 => exact tyok_36
  | 38 => exact tyok_38
  | 39 => exact tyok_39
  | 40 => exact tyok_40
  | 42 => exact tyok_42
  | 43 => exact tyok_43
  | 44 => exact tyok_44
  | 46 => exact tyok_46
  | 47 => exact tyok_47
  | 48 => exact tyok_48
  | 50 => exact tyok_50
  | 51 => exact tyok_51
  | 52 => exact tyok_52
  | 54 => exact tyok_54
  | 55 => exact tyok_55
  | 57 => exact tyok_57
  | 59 => exact tyok_59
  | 60 => exact tyok_60
  | 61 => exact tyok_61
  | 62 => exact tyok_62
  | 64 => exact tyok_64
  | 65 => exact tyok_65
  | 66 => exact tyok_66
  | 68 => exact tyok_68
  | 70 => exact tyok_70
  | 71 => exact tyok_71
  | 72 => exact tyok_72
  | 74 => exact tyok_74
  | 75 => exact tyok_75
  | 77 => exact tyok_77
  | 78 => exact tyok_78
  | 79 => exact tyok_79
  | 80 => exact tyok_80
  | 81 => exact tyok_81
  | 82 => exact tyok_82
  | 83 => exact tyok_83
  | 84 => exact tyok_84
  | 85 => exact tyok_85
  | 86 => exact tyok_86
  | 87 => exact tyok_87
  | 88 => exact tyok_88
  | 89 => exact tyok_89
  | 90 => exact tyok_90
  | 91 => exact tyok_91
  | 92 => exact tyok_92
  | 93 => exact tyok_93
  | 94 => exact tyok_94
  | 95 => exact tyok_95
  | 96 => exact tyok_96
  | 97 => exact tyok_97
  | 98 => exact tyok_98
  | 99 => exact tyok_99
  | 100 => exact tyok_100
  | 102 => exact tyok_102
  | 103 => exact tyok_103
  | 104 => exact tyok_104
  | 105 => exact tyok_105
  | 106 => exact tyok_106
  | 107 => exact tyok_107
  | 108 => exact tyok_108
  | 109 => exact tyok_109
  | 110 => exact tyok_110
  | 111 => exact tyok_111
  | 112 => exact tyok_112
  | 113 => exact tyok_113
  | 114 => exact tyok_114
  | 115 => exact tyok_115
  | 116 => exact tyok_116
  | 117 => exact tyok_117
  | 118 => exact tyok_118
  | 119 => exact tyok_119
  | 120 => exact tyok_120
  | 121 => exact tyok_121
  | 122 => exact tyok_122
  | 123 => exact tyok_123
  | 124 => exact tyok_124
  | 125 => exact tyok_125
  | 127 => exact tyok_127
  | 128 => exact tyok_128
  | 129 => exact tyok_129
  | 130 => exact tyok_130
  | 131 => exact tyok_131
  | 132 => exact tyok_132
  | 133 => exact tyok_133
  | 134 => exact tyok_134
  | 135 => exact tyok_135
  | 136 => exact tyok_136
  | 137 => exact tyok_137
  | 138 => exact tyok_138
  | 139 => exact tyok_139
  | 141 => exact tyok_141
  | 142 => exact tyok_142
  | 143 => exact tyok_143
  | 144 => exact tyok_144
  | 145 => exact tyok_145
  | 146 => exact tyok_146
  | 147 => exact tyok_147
  | 148 => exact tyok_148
  | 149 => exact tyok_149
  | 150 => exact tyok_150
  | 151 => exact tyok_151
  | 152 => exact tyok_152
  | 153 => exact tyok_153
  | 154 => exact tyok_154
  | 155 => exact tyok_155
  | 156 => exact tyok_156
  | 157 => exact tyok_157
  | 158 => exact tyok_158
  | 159 => exact tyok_159
  | 160 => exact tyok_160
  | 161 => exact tyok_161
  | 162 => exact tyok_162
  | 163 => exact tyok_163
  | 164 => exact tyok_164
  | 165 => exact tyok_165
  | 166 => exact tyok_166
  | 168 => exact tyok_168
  | 169 => exact tyok_169
  | 170 => exact tyok_170
  | 171 => exact tyok_171
  | 172 => exact tyok_172
  | 173 => exact tyok_173
  | 174 => exact tyok_174
  | 175 => exact tyok_175
  | 176 => exact tyok_176
  | 177 => exact tyok_177
  | 178 => exact tyok_178
  | 179 => exact tyok_179
  | 180 => exact tyok_180
  | 181 => exact tyok_181
  | 182 => exact tyok_182
  | 183 => exact tyok_183
  | 184 => exact tyok_184
  | 185 => exact tyok_185
  | 186 => exact tyok_186
  | 187 => exact tyok_187
  | 188 => exact tyok_188
  | 189 => exact tyok_189
  | 190 => exact tyok_190
  | 191 => exact tyok_191
  | 192 => exact tyok_192
  | 193 => exact tyok_193
  | 194 => exact tyok_194
  | 195 => exact tyok_195
  | 196 => exact tyok_196
  | 197 => exact tyok_197
  | 198 => exact tyok_198
  | 199 => exact tyok_199
  | 200 => exact tyok_200
  | 201 => exact tyok_201
  | 202 => exact tyok_202
  | 203 => exact tyok_203
  | 204 => exact tyok_204
  | 205 => exact tyok_205
  | 206 => exact tyok_206
  | 0 => exact tyok_other _ rfl
  | 9 => exact tyok_other _ rfl
  | 10 => exact tyok_other _ rfl
  | 11 => exact tyok_other _ rfl
  | 20 => exact tyok_other _ rfl
  | 29 => exact tyok_other _ rfl
  | 31 => exact tyok_other _ rfl
  | 34 => exact tyok_other _ rfl
  | 37 => exact tyok_other _ rfl
  | 41 => exact tyok_other _ rfl
  | 45 => exact tyok_other _ rfl
  | 49 => exact tyok_other _ rfl
  | 53 => exact tyok_other _ rfl
  | 56 => exact tyok_other _ rfl
  | 58 => exact tyok_other _ rfl
  | 63 => exact tyok_other _ rfl
  | 67 => exact tyok_other _ rfl
  | 69 => exact tyok_other _ rfl
  | 73 => exact tyok_other _ rfl
  | 76 => exact tyok_other _ rfl
  | 101 => exact tyok_other _ rfl
  | 126 => exact tyok_other _ rfl
  | 140 => exact tyok_other _ rfl
  | 167 => exact tyok_other _ rfl
  | n + 207 => exact tyok_other _ (by simp [tys])
theorem mixed : Tryz.prog.follows .mixedOrders = true := by kernel_rfl

end Go.Proofs.YtmccafjblhbmkaaGreat
namespace Go.Proofs.YtmccafjblhbmkaaGreat
open Go Go.RowKit

theorem fn_5 : FnOK Tryz.prog 5 Tryz.f5 (Tryz.f5.body.getD .skip) [] [] := ⟨Tryz.func5, rfl, by kernel_rfl, by kernel_rfl⟩
theorem fn_6 : FnOK Tryz.prog 6 Tryz.f6 (Tryz.f6.body.getD .skip) [] [] := ⟨Tryz.func6, rfl, by kernel_rfl, by kernel_rfl⟩
theorem fn_19 : FnOK Tryz.prog 19 Tryz.f19 (Tryz.f19.body.getD .skip) [] [] := ⟨Tryz.func19, rfl, by kernel_rfl, by kernel_rfl⟩
theorem fn_23 : FnOK Tryz.prog 23 Tryz.f23 (Tryz.f23.body.getD .skip) [] [] := ⟨Tryz.func23, rfl, by kernel_rfl, by kernel_rfl⟩
theorem fn_24 : FnOK Tryz.prog 24 Tryz.f24 (Tryz.f24.body.getD .skip) [] [] := ⟨Tryz.func24, rfl, by kernel_rfl, by kernel_rfl⟩
theorem fn_43 : FnOK Tryz.prog 43 Tryz.f43 (Tryz.f43.body.getD .skip) [] [] := ⟨Tryz.func43, rfl, by kernel_rfl, by kernel_rfl⟩
theorem fn_44 : FnOK Tryz.prog 44 Tryz.f44 (Tryz.f44.body.getD .skip) [] [] := ⟨Tryz.func44, rfl, by kernel_rfl, by kernel_rfl⟩
theorem fn_46 : FnOK Tryz.prog 46 Tryz.f46 (Tryz.f46.body.getD .skip) [] [] := ⟨Tryz.func46, rfl, by kernel_rfl, by kernel_rfl⟩
theorem fn_47 : FnOK Tryz.prog 47 Tryz.f47 (Tryz.f47.body.getD .skip) [] [] := ⟨Tryz.func47, rfl, by kernel_rfl, by kernel_rfl⟩
theorem fn_49 : FnOK Tryz.prog 49 Tryz.f49 (Tryz.f49.body.getD .skip) [] [] := ⟨Tryz.func49, rfl, by kernel_rfl, by kernel_rfl⟩
theorem fn_50 : FnOK Tryz.prog 50 Tryz.f50 (Tryz.f50.body.getD .skip) [] [] := ⟨Tryz.func50, rfl, by kernel_rfl, by kernel_rfl⟩
theorem fn_51 : FnOK Tryz.prog 51 Tryz.f51 (Tryz.f51.body.getD .skip) [] [] := ⟨Tryz.func51, rfl, by kernel_rfl, by kernel_rfl⟩
theorem fn_52 : FnOK Tryz.prog 52 Tryz.f52 (Tryz.f52.body.getD .skip) [] [] := ⟨Tryz.func52, rfl, by kernel_rfl, by kernel_rfl⟩
theorem fn_54 : FnOK Tryz.prog 54 Tryz.f54 (Tryz.f54.body.getD .skip) [] [] := ⟨Tryz.func54, rfl, by kernel_rfl, by kernel_rfl⟩
theorem fn_55 : FnOK Tryz.prog 55 Tryz.f55 (Tryz.f55.body.getD .skip) [] [] := ⟨Tryz.func55, rfl, by kernel_rfl, by kernel_rfl⟩
theorem fn_56 : FnOK Tryz.prog 56 Tryz.f56 (Tryz.f56.body.getD .skip) [] [] := ⟨Tryz.func56, rfl, by kernel_rfl, by kernel_rfl⟩
theorem fn_57 : FnOK Tryz.prog 57 Tryz.f57 (Tryz.f57.body.getD .skip) [] [] := ⟨Tryz.func57, rfl, by kernel_rfl, by kernel_rfl⟩
theorem fn_58 : FnOK Tryz.prog 58 Tryz.f58 (Tryz.f58.body.getD .skip) [] [] := ⟨Tryz.func58, rfl, by kernel_rfl, by kernel_rfl⟩
theorem fn_59 : FnOK Tryz.prog 59 Tryz.f59 (Tryz.f59.body.getD .skip) [] [] := ⟨Tryz.func59, rfl, by kernel_rfl, by kernel_rfl⟩
theorem fn_60 : FnOK Tryz.prog 60 Tryz.f60 (Tryz.f60.body.getD .skip) [] [] := ⟨Tryz.func60, rfl, by kernel_rfl, by kernel_rfl⟩
theorem fn_62 : FnOK Tryz.prog 62 Tryz.f62 (Tryz.f62.body.getD .skip) [] [] := ⟨Tryz.func62, rfl, by kernel_rfl, by kernel_rfl⟩
theorem fn_63 : FnOK Tryz.prog 63 Tryz.f63 (Tryz.f63.body.getD .skip) [] [] := ⟨Tryz.func63, rfl, by kernel_rfl, by kernel_rfl⟩
theorem fn_64 : FnOK Tryz.prog 64 Tryz.f64 (Tryz.f64.body.getD .skip) [] [] := ⟨Tryz.func64, rfl, by kernel_rfl, by kernel_rfl⟩
theorem fn_69 : FnOK Tryz.prog 69 Tryz.f69 (Tryz.f69.body.getD .skip) [] [] := ⟨Tryz.func69, rfl, by kernel_rfl, by kernel_rfl⟩
theorem fn_70 : FnOK Tryz.prog 70 Tryz.f70 (Tryz.f70.body.getD .skip) [] [(2, .tree (.one 1 (.alt 0 (.alt 2 (.one 3 (.one 4 (.one 5 (.one 6 (.one 7 (.one 8 .done)))))) (.alt 4 (.alt 2 (.one 3 (.one 5 (.one 6 (.one 7 (.one 8 .done))))) (.alt 5 (.one 2 (.one 3 (.one 6 (.one 7 (.one 8 .done))))) .stop)) .stop)) (.alt 4 (.alt 0 (.alt 2 (.one 3 (.one 5 (.one 6 (.one 7 (.one 8 .done))))) (.alt 5 (.one 2 (.one 3 (.one 6 (.one 7 (.one 8 .done))))) .stop)) (.alt 5 (.one 0 (.one 2 (.one 3 (.one 6 (.one 7 (.one 8 .done)))))) .stop)) .stop))))] := ⟨Tryz.func70, rfl, by kernel_rfl, by kernel_rfl⟩
theorem fn_71 : FnOK Tryz.prog 71 Tryz.f71 (Tryz.f71.body.getD .skip) [] [] := ⟨Tryz.func71, rfl, by kernel_rfl, by kernel_rfl⟩
theorem fn_72 : FnOK Tryz.prog 72 Tryz.f72 (Tryz.f72.body.getD .skip) [] [] := ⟨Tryz.func72, rfl, by kernel_rfl, by kernel_rfl⟩
theorem fn_74 : FnOK Tryz.prog 74 Tryz.f74 (Tryz.f74.body.getD .skip) [] [] := ⟨Tryz.func74, rfl, by kernel_rfl, by kernel_rfl⟩
theorem fn_75 : FnOK Tryz.prog 75 Tryz.f75 (Tryz.f75.body.getD .skip) [] [] := ⟨Tryz.func75, rfl, by kernel_rfl, by kernel_rfl⟩
theorem fn_77 : FnOK Tryz.prog 77 Tryz.f77 (Tryz.f77.body.getD .skip) [] [] := ⟨Tryz.func77, rfl, by kernel_rfl, by kernel_rfl⟩
theorem fn_79 : FnOK Tryz.prog 79 Tryz.f79 (Tryz.f79.body.getD .skip) [] [] := ⟨Tryz.func79, rfl, by kernel_rfl, by kernel_rfl⟩
theorem fn_82 : FnOK Tryz.prog 82 Tryz.f82 (Tryz.f82.body.getD .skip) [] [] := ⟨Tryz.func82, rfl, by kernel_rfl, by kernel_rfl⟩
theorem fn_83 : FnOK Tryz.prog 83 Tryz.f83 (Tryz.f83.body.getD .skip) [] [] := ⟨Tryz.func83, rfl, by kernel_rfl, by kernel_rfl⟩
theorem fn_84 : FnOK Tryz.prog 84 Tryz.f84 (Tryz.f84.body.getD .skip) [] [] := ⟨Tryz.func84, rfl, by kernel_rfl, by kernel_rfl⟩
theorem fn_87 : FnOK Tryz.prog 87 Tryz.f87 (Tryz.f87.body.getD .skip) [] [(17, .holes [4])] := ⟨Tryz.func87, rfl, by kernel_rfl, by kernel_rfl⟩
theorem fn_88 : FnOK Tryz.prog 88 Tryz.f88 (Tryz.f88.body.getD .skip) [] [] := ⟨Tryz.func88, rfl, by kernel_rfl, by kernel_rfl⟩
theorem fn_89 : FnOK Tryz.prog 89 Tryz.f89 (Tryz.f89.body.getD .skip) [] [] := ⟨Tryz.func89, rfl, by kernel_rfl, by kernel_rfl⟩
theorem fn_90 : FnOK Tryz.prog 90 Tryz.f90 (Tryz.f90.body.getD .skip) [] [] := ⟨Tryz.func90, rfl, by kernel_rfl, by kernel_rfl⟩
theorem fn_97 : FnOK Tryz.prog 97 Tryz.f97 (Tryz.f97.body.getD .skip) [] [] := ⟨Tryz.func97, rfl, by kernel_rfl, by kernel_rfl⟩
theorem fn_100 : FnOK Tryz.prog 100 Tryz.f100 (Tryz.f100.body.getD .skip) [] [] := ⟨Tryz.func100, rfl, by kernel_rfl, by kernel_rfl⟩
theorem fn_101 : FnOK Tryz.prog 101 Tryz.f101 (Tryz.f101.body.getD .skip) [] [] := ⟨Tryz.func101, rfl, by kernel_rfl, by kernel_rfl⟩
theorem fn_102 : FnOK Tryz.prog 102 Tryz.f102 (Tryz.f102.body.getD .skip) [] [] := ⟨Tryz.func102, rfl, by kernel_rfl, by kernel_rfl⟩
theorem fn_103 : FnOK Tryz.prog 103 Tryz.f103 (Tryz.f103.body.getD .skip) [] [] := ⟨Tryz.func103, rfl, by kernel_rfl, by kernel_rfl⟩
theorem fn_104 : FnOK Tryz.prog 104 Tryz.f104 (Tryz.f104.body.getD .skip) [] [] := ⟨Tryz.func104, rfl, by kernel_rfl, by kernel_rfl⟩
theorem fn_105 : FnOK Tryz.prog 105 Tryz.f105 (Tryz.f105.body.getD .skip) [] [] := ⟨Tryz.func105, rfl, by kernel_rfl, by kernel_rfl⟩
theorem fn_106 : FnOK Tryz.prog 106 Tryz.f106 (Tryz.f106.body.getD .skip) [] [] := ⟨Tryz.func106, rfl, by kernel_rfl, by kernel_rfl⟩
theorem fn_108 : FnOK Tryz.prog 108 Tryz.f108 (Tryz.f108.body.getD .skip) [] [] := ⟨Tryz.func108, rfl, by kernel_rfl, by kernel_rfl⟩
theorem fn_109 : FnOK Tryz.prog 109 Tryz.f109 (Tryz.f109.body.getD .skip) [] [] := ⟨Tryz.func109, rfl, by kernel_rfl, by kernel_rfl⟩
theorem fn_110 : FnOK Tryz.prog 110 Tryz.f110 (Tryz.f110.body.getD .skip) [] [] := ⟨Tryz.func110, rfl, by kernel_rfl, by kernel_rfl⟩
theorem fn_111 : FnOK Tryz.prog 111 Tryz.f111 (Tryz.f111.body.getD .skip) [] [] := ⟨Tryz.func111, rfl, by kernel_rfl, by kernel_rfl⟩
theorem fn_112 : FnOK Tryz.prog 112 Tryz.f112 (Tryz.f112.body.getD .skip) [] [] := ⟨Tryz.func112, rfl, by kernel_rfl, by kernel_rfl⟩
theorem fn_113 : FnOK Tryz.prog 113 Tryz.f113 (Tryz.f113.body.getD .skip) [] [] := ⟨Tryz.func113, rfl, by kernel_rfl, by kernel_rfl⟩
theorem fn_114 : FnOK Tryz.prog 114 Tryz.f114 (Tryz.f114.body.getD .skip) [] [] := ⟨Tryz.func114, rfl, by kernel_rfl, by kernel_rfl⟩
theorem fn_115 : FnOK Tryz.prog 115 Tryz.f115 (Tryz.f115.body.getD .skip) [] [] := ⟨Tryz.func115, rfl, by kernel_rfl, by kernel_rfl⟩
theorem fn_116 : FnOK Tryz.prog 116 Tryz.f116 (Tryz.f116.body.getD .skip) [] [] := ⟨Tryz.func116, rfl, by kernel_rfl, by kernel_rfl⟩
theorem fn_117 : FnOK Tryz.prog 117 Tryz.f117 (Tryz.f117.body.getD .skip) [] [] := ⟨Tryz.func117, rfl, by kernel_rfl, by kernel_rfl⟩
theorem fn_118 : FnOK Tryz.prog 118 Tryz.f118 (Tryz.f118.body.getD .skip) [] [] := ⟨Tryz.func118, rfl, by kernel_rfl, by kernel_rfl⟩
theorem fn_119 : FnOK Tryz.prog 119 Tryz.f119 (Tryz.f119.body.getD .skip) [] [] := ⟨Tryz.func119, rfl, by kernel_rfl, by kernel_rfl⟩
theorem fn_120 : FnOK Tryz.prog 120 Tryz.f120 (Tryz.f120.body.getD .skip) [] [] := ⟨Tryz.func120, rfl, by kernel_rfl, by kernel_rfl⟩
theorem fn_125 : FnOK Tryz.prog 125 Tryz.f125 (Tryz.f125.body.getD .skip) [] [] := ⟨Tryz.func125, rfl, by kernel_rfl, by kernel_rfl⟩
theorem fn_127 : FnOK Tryz.prog 127 Tryz.f127 (Tryz.f127.body.getD .skip) [] [] := ⟨Tryz.func127, rfl, by kernel_rfl, by kernel_rfl⟩
theorem fn_128 : FnOK Tryz.prog 128 Tryz.f128 (Tryz.f128.body.getD .skip) [] [] := ⟨Tryz.func128, rfl, by kernel_rfl, by kernel_rfl⟩
theorem fn_129 : FnOK Tryz.prog 129 Tryz.f129 (Tryz.f129.body.getD .skip) [] [] := ⟨Tryz.func129, rfl, by kernel_rfl, by kernel_rfl⟩
theorem fn_131 : FnOK Tryz.prog 131 Tryz.f131 (Tryz.f131.body.getD .skip) [] [] := ⟨Tryz.func131, rfl, by kernel_rfl, by kernel_rfl⟩
theorem fn_132 : FnOK Tryz.prog 132 Tryz.f132 (Tryz.f132.body.getD .skip) [] [] := ⟨Tryz.func132, rfl, by kernel_rfl, by kernel_rfl⟩
theorem fn_133 : FnOK Tryz.prog 133 Tryz.f133 (Tryz.f133.body.getD .skip) [] [] := ⟨Tryz.func133, rfl, by kernel_rfl, by kernel_rfl⟩
theorem fn_135 : FnOK Tryz.prog 135 Tryz.f135 (Tryz.f135.body.getD .skip) [] [] := ⟨Tryz.func135, rfl, by kernel_rfl, by kernel_rfl⟩
theorem fn_136 : FnOK Tryz.prog 136 Tryz.f136 (Tryz.f136.body.getD .skip) [] [] := ⟨Tryz.func136, rfl, by kernel_rfl, by kernel_rfl⟩
theorem fn_137 : FnOK Tryz.prog 137 Tryz.f137 (Tryz.f137.body.getD .skip) [] [] := ⟨Tryz.func137, rfl, by kernel_rfl, by kernel_rfl⟩
theorem fn_142 : FnOK Tryz.prog 142 Tryz.f142 (Tryz.f142.body.getD .skip) [] [] := ⟨Tryz.func142, rfl, by kernel_rfl, by kernel_rfl⟩
theorem fn_144 : FnOK Tryz.prog 144 Tryz.f144 (Tryz.f144.body.getD .skip) [] [] := ⟨Tryz.func144, rfl, by kernel_rfl, by kernel_rfl⟩
theorem fn_145 : FnOK Tryz.prog 145 Tryz.f145 (Tryz.f145.body.getD .skip) [] [] := ⟨Tryz.func145, rfl, by kernel_rfl, by kernel_rfl⟩
theorem fn_146 : FnOK Tryz.prog 146 Tryz.f146 (Tryz.f146.body.getD .skip) [] [] := ⟨Tryz.func146, rfl, by kernel_rfl, by kernel_rfl⟩
theorem fn_147 : FnOK Tryz.prog 147 Tryz.f147 (Tryz.f147.body.getD .skip) [] [] := ⟨Tryz.func147, rfl, by kernel_rfl, by kernel_rfl⟩
theorem fn_148 : FnOK Tryz.prog 148 Tryz.f148 (Tryz.f148.body.getD .skip) [] [] := ⟨Tryz.func148, rfl, by kernel_rfl, by kernel_rfl⟩
theorem fn_149 : FnOK Tryz.prog 149 Tryz.f149 (Tryz.f149.body.getD .skip) [] [] := ⟨Tryz.func149, rfl, by kernel_rfl, by kernel_rfl⟩
theorem fn_150 : FnOK Tryz.prog 150 Tryz.f150 (Tryz.f150.body.getD .skip) [] [] := ⟨Tryz.func150, rfl, by kernel_rfl, by kernel_rfl⟩
theorem fn_151 : FnOK Tryz.prog 151 Tryz.f151 (Tryz.f151.body.getD .skip) [] [] := ⟨Tryz.func151, rfl, by kernel_rfl, by kernel_rfl⟩
theorem fn_154 : FnOK Tryz.prog 154 Tryz.f154 (Tryz.f154.body.getD .skip) [] [] := ⟨Tryz.func154, rfl, by kernel_rfl, by kernel_rfl⟩
theorem fn_158 : FnOK Tryz.prog 158 Tryz.f158 (Tryz.f158.body.getD .skip) [] [] := ⟨Tryz.func158, rfl, by kernel_rfl, by kernel_rfl⟩
theorem fn_161 : FnOK Tryz.prog 161 Tryz.f161 (Tryz.f161.body.getD .skip) [] [] := ⟨Tryz.func161, rfl, by kernel_rfl, by kernel_rfl⟩
theorem fn_162 : FnOK Tryz.prog 162 Tryz.f162 (Tryz.f162.body.getD .skip) [] [] := ⟨Tryz.func162, rfl, by kernel_rfl, by kernel_rfl⟩
theorem fn_173 : FnOK Tryz.prog 173 Tryz.f173 (Tryz.f173.body.getD .skip) [] [] := ⟨Tryz.func173, rfl, by kernel_rfl, by kernel_rfl⟩
theorem fn_189 : FnOK Tryz.prog 189 Tryz.f189 (Tryz.f189.body.getD .skip) [] [] := ⟨Tryz.func189, rfl, by kernel_rfl, by kernel_rfl⟩
end Go.Proofs.YtmccafjblhbmkaaGreat
