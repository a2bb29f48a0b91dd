/- The engine: operations that only read. -/
import Derived.Test.YtnlbljikbonioaaEng
import Derived.Laws.StructEq
import Derived.WideKeyRuns
set_option maxRecDepth 100000
set_option linter.unusedSimpArgs false
set_option linter.unusedVariables false
namespace Go.Proofs.Ytnlbljikbonioaa
open Go Go.RowKit

inductive Kd where
  | int | bool | arr (n e : Nat) | str (fs : List (Nat × Nat)) | sl (e : Nat) | mp (k e : Nat) | num (k : IntKind) | sca | other
structure TyD where
  k : Kd
  size : Nat
  bytes : Nat
  z : SV
def Kd.isAgg : Kd → Bool
  | .arr _ _ => true
  | .str _ => true
  | _ => false
def Kd.isSca : Kd → Bool
  | .int => true
  | .bool => true
  | .sl _ => true
  | .mp _ _ => true
  | .num _ => true
  | .sca => true
  | _ => false
def tdAgg : TypeDesc → Bool
  | .struct _ => true
  | .array _ _ => true
  | _ => false
def KdOK (P : Program) (t : TypeId) : Kd → Prop
  | .int => P.underlying t = some (.int .i64)
  | .bool => P.underlying t = some .bool
  | .arr n e => P.underlying t = some (.array n e)
  | .str fs => ∃ F : Array Field, P.underlying t = some (.struct F) ∧ F.toList.map (fun f => (f.offset, f.type)) = fs
  | .sl e => P.underlying t = some (.slice e)
  | .mp k e => P.underlying t = some (.map k e)
  | .num k => P.underlying t = some (.int k)
  | .sca => ∃ d, P.underlying t = some d ∧ tdAgg d = false
  | .other => True
structure TyOK (P : Program) (t : TypeId) (d : TyD) : Prop where
  kd : KdOK P t d.k
  info : d.k ≠ .other → ∃ i, P.info? t = some i ∧ i.size = d.size ∧ i.bytes = d.bytes ∧ (d.z.known = true → i.zero = some (d.z.den fun _ => 0))
abbrev Tys := Nat → TyD
def TysOK (P : Program) (τ : Tys) : Prop := ∀ t, TyOK P t (τ t)

theorem tyOK_mk {P : Program} {t : TypeId} {d : TyD} (hk : KdOK P t d.k) (hi : (P.info? t).map (fun i => (i.size, i.bytes, i.zero)) = some (d.size, d.bytes, if d.z.known then some (d.z.den fun _ => 0) else none) ∨ (d.z.known = false ∧ (P.info? t).map (fun i => (i.size, i.bytes)) = some (d.size, d.bytes))) : TyOK P t d := by
  refine ⟨hk, fun _ => ?_⟩
  cases hq : P.info? t with
  | none => simp [hq] at hi
  | some i =>
    rcases hi with hi | ⟨h0, hi⟩
    · simp [hq] at hi
      exact ⟨i, rfl, hi.1, hi.2.1, fun hz => by rw [hi.2.2]; simp [hz]⟩
    · simp [hq] at hi
      exact ⟨i, rfl, hi.1, hi.2, fun hz => by rw [h0] at hz; cases hz⟩

abbrev K1 := SV → Heap → Nat → Prop

def In64 (x : Int) : Prop := -9223372036854775808 ≤ x ∧ x ≤ 9223372036854775807
theorem wrap_in {x : Int} (h : In64 x) : IntKind.i64.wrap x = x := IntWalk.i64_in x h
/-- An int64 sum: either it fits (nw), or it is wrapped. -/
def arVC (nw : Bool) (x : Int) (H : Heap) (n : Nat) (κ : K1) : Prop := match nw with
  | true => In64 x ∧ κ (.int x) H n
  | false => κ (.int (IntKind.i64.wrap x)) H n
def intVC (nw mw : Bool) (op : BinOp) (a b : Int) (H : Heap) (n : Nat) (κ : K1) : Prop := match op with
  | .add => arVC nw (a + b) H n κ
  | .sub => arVC nw (a - b) H n κ
  | .mul => arVC mw (a * b) H n κ
  | .quo => b ≠ 0 ∧ arVC mw (a.tdiv b) H n κ
  | .rem => b ≠ 0 ∧ κ (.int (a.tmod b)) H n
  | .eql => κ (.bool (decide (a = b))) H n
  | .neq => κ (.bool (!decide (a = b))) H n
  | .lss => κ (.bool (decide (a < b))) H n
  | .leq => κ (.bool (decide (a ≤ b))) H n
  | .gtr => κ (.bool (decide (b < a))) H n
  | .geq => κ (.bool (decide (b ≤ a))) H n
  | _ => False
/-- A type whose cells are all int64: how '==' at it is carried out. -/
def EqI (P : Program) (t : TypeId) (size : Nat) : Prop := ∀ (L M : List Int), L.length = size → M.length = size → ∀ w : World,
  (∀ x y, (eqGuard .eql t x y (.agg (ints L)) (.agg (ints M))).run P w = .ok () w) ∧ (∀ x y, (eqGuard .neq t x y (.agg (ints L)) (.agg (ints M))).run P w = .ok () w) ∧
  (Op.equal t (.agg (ints L)) (.agg (ints M))).run P w = .ok (decide (L = M)) w
/-- Whole numbers of other kinds: what is worked out wraps. -/
def numVC (op : BinOp) (k k' : IntKind) (a b : Int) (H : Heap) (n : Nat) (κ : K1) : Prop := match op with
  | .add => k = k' ∧ κ (.lit (.int k (k.wrap (a + b)))) H n
  | .sub => k = k' ∧ κ (.lit (.int k (k.wrap (a - b)))) H n
  | .mul => k = k' ∧ κ (.lit (.int k (k.wrap (a * b)))) H n
  | .and => k = k' ∧ κ (.lit (.int k (k.wrap (BitVec.ofInt k.bits a &&& BitVec.ofInt k.bits b).toNat))) H n
  | .xor => k = k' ∧ κ (.lit (.int k (k.wrap (BitVec.ofInt k.bits a ^^^ BitVec.ofInt k.bits b).toNat))) H n
  | .shr => 0 ≤ b ∧ κ (.lit (.int k (a.fdiv (2 ^ (min b.toNat k.bits))))) H n
  | _ => False
def binVC (P : Program) (nw mw : Bool) (op : BinOp) (t : TypeId) (d : TyD) (x y : SV) (H : Heap) (n : Nat) (κ : K1) : Prop := match x, y with
  | .int a, .int b => intVC nw mw op a b H n κ
  | .lit (.int k a), .lit (.int k' b) => numVC op k k' a b H n κ
  | .lit (.int k a), .int b => numVC op k .i64 a b H n κ
  | .bool a, .bool b => d.k = .bool ∧ match op with
    | .eql => κ (.bool (a == b)) H n
    | .neq => κ (.bool (!(a == b))) H n
    | _ => False
  | .arr L, .arr M => EqI P t d.size ∧ L.length = d.size ∧ M.length = d.size ∧ match op with
    | .eql => κ (.bool (decide (L = M))) H n
    | .neq => κ (.bool (!decide (L = M))) H n
    | _ => False
  | _, _ => False
def unVC (nw : Bool) (op : UnOp) (x : SV) (H : Heap) (n : Nat) (κ : K1) : Prop := match op, x with
  | .not, .bool b => κ (.bool (!b)) H n
  | .neg, .int a => arVC nw (-a) H n κ
  | _, _ => False
/-- A whole number at another kind. -/
def convI (d : TyD) (x : Int) (H : Heap) (n : Nat) (κ : K1) : Prop := match d.k with
  | .int => In64 x ∧ κ (.int x) H n
  | .num k => κ (.lit (.int k (k.wrap x))) H n
  | _ => False
def convVC (s d : TyD) (v : SV) (H : Heap) (n : Nat) (κ : K1) : Prop := match v with
  | .int x => s.k.isSca = true ∧ convI d x H n κ
  | .lit (.int _ x) => s.k.isSca = true ∧ convI d x H n κ
  | _ => False
def pickVC (c a b : SV) (H : Heap) (n : Nat) (κ : K1) : Prop := match c with
  | .bool x => (x = true → κ a H n) ∧ (x = false → κ b H n)
  | _ => False
/-- Zeros of one cell that are no numbers. -/
def litOne : Value → Bool
  | .pointer none => true
  | .map none => true
  | .int _ _ => true
  | _ => false
theorem litOne_spec {v : Value} (h : litOne v = true) : v.cells = #[v] ∧ v.oneCell' = true := by
  unfold litOne at h
  split at h <;> first | (cases h; done) | exact ⟨rfl, rfl⟩
def oneCellS : SV → Bool
  | .int _ => true
  | .bool _ => true
  | .ptr _ _ => true
  | .slice _ _ _ _ => true
  | .nils => true
  | .fn _ _ => true
  | .mp _ => true
  | .lit v => litOne v
  | _ => false
def cellM (o : Option SV) (H : Heap) (n : Nat) (κ : K1) : Prop := match o with
  | some v => oneCellS v = true ∧ κ v H n
  | none => False
def loadB (d : TyD) (o : Option SObj) (off : Nat) (H : Heap) (n : Nat) (κ : K1) : Prop := match o with
  | some (.ints L _) => match d.k with
    | .int => off < L.length ∧ κ (.int (L.getD off 0)) H n
    | .arr _ _ => off + d.size ≤ L.length ∧ κ (.arr ((L.drop off).take d.size)) H n
    | .str _ => off + d.size ≤ L.length ∧ κ (.arr ((L.drop off).take d.size)) H n
    | _ => False
  | some (.bls L _) => match d.k with
    | .bool => off < L.length ∧ κ (.bool (L.getD off false)) H n
    | .arr _ _ => off + d.size ≤ L.length ∧ κ (.barr ((L.drop off).take d.size)) H n
    | _ => False
  | some (.cells l _) => match d.k with
    | .str _ => off + d.size ≤ l.length ∧ κ (.stc ((l.drop off).take d.size)) H n
    | _ => d.k.isSca = true ∧ cellM l[off]? H n κ
  | some (.win o L) => match d.k with
    | .int => o ≤ off ∧ off < o + L.length ∧ κ (.int (L.getD (off - o) 0)) H n
    | .arr _ _ => 0 < d.size ∧ o ≤ off ∧ off + d.size ≤ o + L.length ∧ κ (.arr ((L.drop (off - o)).take d.size)) H n
    | .str _ => 0 < d.size ∧ o ≤ off ∧ off + d.size ≤ o + L.length ∧ κ (.arr ((L.drop (off - o)).take d.size)) H n
    | _ => False
  | some (.winU o L) => match d.k with
    | .num .u8 => o ≤ off ∧ off < o + L.length ∧ κ (.lit (.int .u8 (L.getD (off - o) 0))) H n
    | _ => False
  | _ => False
def loadVC (d : TyD) (a : SV) (H : Heap) (n : Nat) (κ : K1) : Prop := match a with
  | .ptr b off => loadB d (hget H b) off H n κ
  | _ => False
def extractVC (v : SV) (i : Nat) (H : Heap) (n : Nat) (κ : K1) : Prop := match v with
  | .tup l => match l[i]? with
    | some x => κ x H n
    | none => False
  | _ => False
def makeFuncVC (fn : Fn) (first : Array Operand) (caps : List SV) (H : Heap) (n : Nat) (κ : K1) : Prop := match fn with
  | .func f => first = #[] ∧ caps.all SV.known = true ∧ κ (.fn f caps) H n
  | _ => False
def fieldAddrVC (τ : Tys) (d : TyD) (x : SV) (f : Nat) (H : Heap) (n : Nat) (κ : K1) : Prop := match d.k, x with
  | .str fs, .ptr b off => match fs[f]? with
    | some (o, ft) => (τ ft).k ≠ .other ∧ (τ ft).size ≠ 0 ∧ κ (.ptr b (off + o)) H n
    | none => False
  | _, _ => False
def partVC (de : TyD) (L : List Int) (off : Nat) (H : Heap) (n : Nat) (κ : K1) : Prop := match de.k with
  | .int => off < L.length ∧ κ (.int (L.getD off 0)) H n
  | .arr _ _ => κ (.arr ((L.drop off).take de.size)) H n
  | .str _ => κ (.arr ((L.drop off).take de.size)) H n
  | _ => False
def fieldVC (τ : Tys) (d : TyD) (x : SV) (f : Nat) (H : Heap) (n : Nat) (κ : K1) : Prop := match d.k, x with
  | .str fs, .arr L => match fs[f]? with
    | some (o, ft) => partVC (τ ft) L o H n κ
    | none => False
  | .str fs, .stc l => match fs[f]? with
    | some (o, ft) => (τ ft).k.isSca = true ∧ cellM l[o]? H n κ
    | none => False
  | _, _ => False
def nilCheckVC (x : SV) (H : Heap) (n : Nat) (κ : K1) : Prop := match x with
  | .ptr b off => κ (.ptr b off) H n
  | _ => False
def indexAddrVC (τ : Tys) (d : TyD) (x i : SV) (H : Heap) (n : Nat) (κ : K1) : Prop := match d.k, x, i with
  | .arr len e, .ptr b off, .int z => (τ e).k ≠ .other ∧ 0 ≤ z ∧ z < len ∧ κ (.ptr b (off + z.toNat * (τ e).size)) H n
  | .sl e, .slice b off len _, .int z => (τ e).k ≠ .other ∧ 0 ≤ z ∧ z < len ∧ κ (.ptr b (off + z.toNat * (τ e).size)) H n
  | _, _, _ => False
def indexVC (τ : Tys) (d : TyD) (x i : SV) (H : Heap) (n : Nat) (κ : K1) : Prop := match d.k, x, i with
  | .arr len e, .arr L, .int z => 0 ≤ z ∧ z < len ∧ partVC (τ e) L (z.toNat * (τ e).size) H n κ
  | _, _, _ => False
/-- The bounds of a slice expression. -/
def bndVC (o : Option SV) (dflt : Nat) (hi : Nat) (κ : Nat → Prop) : Prop := match o with
  | none => κ dflt
  | some (.int z) => 0 ≤ z ∧ z ≤ hi ∧ κ z.toNat
  | _ => False
def cutOff (m l off es : Nat) : Nat := if m = l then off else off + l * es
def sliceVC (τ : Tys) (d : TyD) (x : SV) (lo hi : Option SV) (H : Heap) (n : Nat) (κ : K1) : Prop := match d.k, x with
  | .arr len e, .ptr b off => (τ e).k ≠ .other ∧ bndVC hi len len fun h => bndVC lo 0 h fun l => κ (.slice b (cutOff len l off (τ e).size) (h - l) (len - l)) H n
  | .sl e, .slice b off len cap => (τ e).k ≠ .other ∧ bndVC hi len cap fun h => bndVC lo 0 h fun l => κ (.slice b (cutOff cap l off (τ e).size) (h - l) (cap - l)) H n
  | .sl e, .nils => (τ e).k ≠ .other ∧ bndVC hi 0 0 fun h => bndVC lo 0 h fun _ => κ .nils H n
  | _, _ => False
/-- Parts of a literal laid over its zero. -/
def fillI (pl : Nat → Option (Nat × Nat)) (cells : List Int) : List (Nat × SV) → Option (List Int)
  | [] => some cells
  | (i, v) :: rest => match pl i, v with
    | some (off, 1), .int x => if off < cells.length then fillI pl (cells.set off x) rest else none
    | some (off, s), .arr M => if M.length = s ∧ off + M.length ≤ cells.length then fillI pl (cells.take off ++ M ++ cells.drop (off + M.length)) rest else none
    | _, _ => none
/-- Names play no part in a zero. -/
def flat1 : SV → Bool
  | .int _ => true
  | .bool _ => true
  | .arr _ => true
  | .barr _ => true
  | .nils => true
  | .lit _ => true
  | _ => false
def flat : SV → Bool
  | .int _ => true
  | .bool _ => true
  | .arr _ => true
  | .barr _ => true
  | .nils => true
  | .stc l => l.all flat1
  | _ => false
/-- The same for a struct of several kinds: each part is one cell. -/
def fillT (pl : Nat → Option Nat) (cells : List SV) : List (Nat × SV) → Option (List SV)
  | [] => some cells
  | (i, v) :: rest => match pl i, oneCellS v with
    | some off, true => if off < cells.length then fillT pl (cells.set off v) rest else none
    | _, _ => none
def buildVC (τ : Tys) (d : TyD) (parts : List (Nat × SV)) (H : Heap) (n : Nat) (κ : K1) : Prop := match d.z, d.k with
  | .arr Z, .arr _ e => (τ e).k ≠ .other ∧ match fillI (fun i => some (i * (τ e).size, (τ e).size)) Z parts with
    | some L => κ (.arr L) H n
    | none => False
  | .arr Z, .str fs => (fs.all fun x => match (τ x.2).k with | .other => false | _ => true) = true ∧ match fillI (fun i => (fs[i]?).map fun x => (x.1, (τ x.2).size)) Z parts with
    | some L => κ (.arr L) H n
    | none => False
  | .stc Z, .str fs => Z.all flat1 = true ∧ (fs.all fun x => match (τ x.2).k with | .other => false | _ => true) = true ∧ (fs.all fun x => (τ x.2).size == 1) = true ∧ match fillT (fun i => (fs[i]?).map fun x => x.1) Z parts with
    | some L => κ (.stc L) H n
    | none => False
  | _, _ => False
def lenMB (o : Option SObj) (H : Heap) (n : Nat) (κ : K1) : Prop := match o with
  | some (.mp _ l) => κ (.int l.length) H n
  | _ => False
def lenVC (d : TyD) (x : SV) (H : Heap) (n : Nat) (κ : K1) : Prop := match d.k, x with
  | .sl _, .slice _ _ len _ => κ (.int len) H n
  | .sl _, .nils => κ (.int 0) H n
  | .arr len _, _ => κ (.int len) H n
  | .mp _ _, .mp b => lenMB (hget H b) H n κ
  | _, _ => False
/-- Keys of a type whose cells are all int64: such a key can be looked up. -/
def KeyI (P : Program) (t : TypeId) (size : Nat) : Prop := (match P.underlying t with | some (.array _ _) | some (.struct _) => true | _ => false) = true ∧ EqI P t size ∧
  ∀ L : List Int, L.length = size → ∀ (em : Bool) (w : World), (Instr.checkKey em 10000 t (.agg (ints L))).run P w = .ok () w
/-- What a map has at a key; where. -/
def mget (l : List (List Int × Int)) (K : List Int) : Int := match l with
  | [] => 0
  | (k, v) :: r => if K = k then v else mget r K
def mhas (l : List (List Int × Int)) (K : List Int) : Bool := match l with
  | [] => false
  | (k, _) :: r => if K = k then true else mhas r K
def mset (l : List (List Int × Int)) (K : List Int) (v : Int) : List (List Int × Int) := match l with
  | [] => [(K, v)]
  | (k, x) :: r => if K = k then (k, v) :: r else (k, x) :: mset r K v
def mz : Bool → SV
  | true => .bool false
  | false => .int 0
def lkRes (bv ok : Bool) (l : List (List Int × Int)) (K : List Int) : SV := match ok with
  | true => .tup [mvS bv (mget l K), .bool (mhas l K)]
  | false => mvS bv (mget l K)
def keysOK (l : List (List Int × Int)) (s : Nat) : Prop := ∀ q ∈ l, q.1.length = s
def lookupB (P : Program) (τ : Tys) (k e : Nat) (ok : Bool) (o : Option SObj) (K : List Int) (H : Heap) (n : Nat) (κ : K1) : Prop := match o with
  | some (.mp bv l) => KeyI P k K.length ∧ keysOK l K.length ∧ (τ e).k ≠ .other ∧ (τ e).z = mz bv ∧ κ (lkRes bv ok l K) H n
  | _ => False
def lookupVC (P : Program) (τ : Tys) (d : TyD) (x i : SV) (ok : Bool) (H : Heap) (n : Nat) (κ : K1) : Prop := match d.k, x, i with
  | .mp k e, .mp b, .arr K => lookupB P τ k e ok (hget H b) K H n κ
  | _, _, _ => False
def mmVC (mx : Bool) (args : List SV) (H : Heap) (n : Nat) (κ : K1) : Prop := match args with
  | [.int x, .int y] => κ (.int (if mx then max x y else min x y)) H n
  | _ => False
def builtinVC (τ : Tys) (b : Builtin) (ts : Array TypeId) (args : List SV) (H : Heap) (n : Nat) (κ : K1) : Prop := match b with
  | .len => match ts[0]?, args with
    | some t, [x] => lenVC (τ t) x H n κ
    | _, _ => False
  | .min => mmVC false args H n κ
  | .max => mmVC true args H n κ
  | _ => False
/-- The operations that only read. -/
def pureVC (P : Program) (τ : Tys) (nw mw : Bool) (op : Op) (S : Env) (H : Heap) (n : Nat) (κ : K1) : Prop := match op with
  | .move x => κ (ev S x) H n
  | .assign x => κ (ev S x) H n
  | .pick c a b => pickVC (ev S c) (ev S a) (ev S b) H n κ
  | .load t a => loadVC (τ t) (ev S a) H n κ
  | .binOp op t x y _ => binVC P nw mw op t (τ t) (ev S x) (ev S y) H n κ
  | .unOp op _ x => unVC nw op (ev S x) H n κ
  | .convert s t x => convVC (τ s) (τ t) (ev S x) H n κ
  | .extract x i => extractVC (ev S x) i H n κ
  | .makeFunc fn first caps => makeFuncVC fn first (caps.toList.map (ev S)) H n κ
  | .fieldAddr t x f => fieldAddrVC τ (τ t) (ev S x) f H n κ
  | .nilCheck x => nilCheckVC (ev S x) H n κ
  | .field t x f => fieldVC τ (τ t) (ev S x) f H n κ
  | .indexAddr t x i => indexAddrVC τ (τ t) (ev S x) (ev S i) H n κ
  | .index t x i => indexVC τ (τ t) (ev S x) (ev S i) H n κ
  | .lookup t x i ok => lookupVC P τ (τ t) (ev S x) (ev S i) ok H n κ
  | .slice t x lo hi mx => mx.isNone = true ∧ sliceVC τ (τ t) (ev S x) (lo.map (ev S)) (hi.map (ev S)) H n κ
  | .build t parts => buildVC τ (τ t) (parts.toList.map fun p => (p.1, ev S p.2)) H n κ
  | .call c => match c.callee with
    | .builtin b => (c.args.toList.map (ev S)).all SV.known = true ∧ builtinVC τ b c.argTypes (c.args.toList.map (ev S)) H n κ
    | _ => False
  | _ => False

/-- What a reading operation comes to. -/
def PureRes (P : Program) (B : Nat → Nat) (H : Heap) (n : Nat) (s : Sem Next) (κ : K1) : Prop :=
  ∃ v x, SV.wf n v ∧ (v.known = true → x = v.den B) ∧ κ v H n ∧ ∀ w, HR B H w → s.run P w = .ok (.value x) w

section
variable {P : Program} {τ : Tys} {B : Nat → Nat} {H : Heap} {n : Nat} {κ : K1}

theorem run_info {t : TypeId} (hτ : TysOK P τ) (hk : (τ t).k ≠ .other) (w : World) : (sizeOf t).run P w = .ok (τ t).size w := by
  obtain ⟨i, hi, hs, _⟩ := (hτ t).info hk
  simp [sizeOf, typeInfo, hi, hs]
theorem und_int {t : TypeId} (hτ : TysOK P τ) (h : (τ t).k = .int) : P.underlying t = some (.int .i64) := by have := (hτ t).kd; rw [h] at this; exact this
theorem und_bool {t : TypeId} (hτ : TysOK P τ) (h : (τ t).k = .bool) : P.underlying t = some .bool := by have := (hτ t).kd; rw [h] at this; exact this
theorem und_arr {t : TypeId} {k e : Nat} (hτ : TysOK P τ) (h : (τ t).k = .arr k e) : P.underlying t = some (.array k e) := by have := (hτ t).kd; rw [h] at this; exact this
theorem und_sl {t : TypeId} {e : Nat} (hτ : TysOK P τ) (h : (τ t).k = .sl e) : P.underlying t = some (.slice e) := by have := (hτ t).kd; rw [h] at this; exact this
theorem und_mp {t : TypeId} {k e : Nat} (hτ : TysOK P τ) (h : (τ t).k = .mp k e) : P.underlying t = some (.map k e) := by have := (hτ t).kd; rw [h] at this; exact this
theorem und_str {t : TypeId} {fs : List (Nat × Nat)} (hτ : TysOK P τ) (h : (τ t).k = .str fs) : ∃ F : Array Field, P.underlying t = some (.struct F) ∧ F.toList.map (fun f => (f.offset, f.type)) = fs := by have := (hτ t).kd; rw [h] at this; exact this
theorem und_sca {t : TypeId} (hτ : TysOK P τ) (h : (τ t).k.isSca = true) : ∃ d, P.underlying t = some d ∧ tdAgg d = false := by
  have := (hτ t).kd
  cases hk : (τ t).k <;> simp [hk, Kd.isSca] at h <;> rw [hk] at this
  · exact ⟨_, this, rfl⟩
  · exact ⟨_, this, rfl⟩
  · exact ⟨_, this, rfl⟩
  · exact ⟨_, this, rfl⟩
  · exact ⟨_, this, rfl⟩
  · exact this
theorem run_isAgg_of {t : TypeId} {d : TypeDesc} (hu : P.underlying t = some d) (w : World) : (isAgg t).run P w = .ok (tdAgg d) w := by
  unfold isAgg
  rw [Sem.run_bind, run_underlying hu w]
  cases d <;> rfl

theorem PureRes.of {s : Sem Next} (v : SV) (hw : v.wf n) (hκ : κ v H n) (hr : ∀ w, HR B H w → s.run P w = .ok (.value (v.den B)) w) : PureRes P B H n s κ :=
  ⟨v, v.den B, hw, fun _ => rfl, hκ, hr⟩

theorem ar_sound {nw : Bool} {x : Int} {s : Sem Next} (h : arVC nw x H n κ) (hr : ∀ w, s.run P w = .ok (.value (.int .i64 (IntKind.i64.wrap x))) w) : PureRes P B H n s κ := by
  cases nw with
  | true => exact .of (.int x) trivial h.2 fun w _ => by rw [hr w, wrap_in h.1]; rfl
  | false => exact .of (.int (IntKind.i64.wrap x)) trivial h fun w _ => hr w

theorem int_sound {nw mw : Bool} {op : BinOp} {a b : Int} {t : TypeId} (h : intVC nw mw op a b H n κ) :
    PureRes P B H n (do pure (.value (← binOp op t (.int .i64 a) (.int .i64 b)))) κ := by
  cases op <;> simp only [intVC] at h
  · exact ar_sound h fun w => by simp [binOp, Op.intArith]
  · exact ar_sound h fun w => by simp [binOp, Op.intArith]
  · exact ar_sound h fun w => by simp [binOp, Op.intArith]
  · exact ar_sound h.2 fun w => by simp [binOp, Op.intDiv, h.1]
  · exact .of (.int _) trivial h.2 fun w _ => by simp [binOp, Op.intDiv, h.1, SV.den]
  · exact .of (.bool _) trivial h fun w _ => by simp [binOp, Op.intCmp, SV.den]; rfl
  · exact .of (.bool _) trivial h fun w _ => by simp [binOp, Op.intCmp, SV.den, bne]; rfl
  · exact .of (.bool _) trivial h fun w _ => by simp [binOp, Op.intCmp, SV.den]
  · exact .of (.bool _) trivial h fun w _ => by simp [binOp, Op.intCmp, SV.den]
  · exact .of (.bool _) trivial h fun w _ => by simp [binOp, Op.intCmp, SV.den]
  · exact .of (.bool _) trivial h fun w _ => by simp [binOp, Op.intCmp, SV.den]

theorem eqGuard_int (op : BinOp) (t : TypeId) (x y : Operand) (k k' : IntKind) (a b : Int) (w : World) : (eqGuard op t x y (.int k a) (.int k' b)).run P w = .ok () w := by
  cases op <;> rfl
theorem eqGuard_bool (op : BinOp) (t : TypeId) (x y : Operand) (a b : Bool) (w : World) : (eqGuard op t x y (.bool a) (.bool b)).run P w = .ok () w := by
  cases op <;> rfl

theorem num_sound {op : BinOp} {k k' : IntKind} {a b : Int} {t : TypeId} (h : numVC op k k' a b H n κ) :
    PureRes P B H n (do pure (.value (← binOp op t (.int k a) (.int k' b)))) κ := by
  cases op <;> simp only [numVC] at h
  all_goals first
    | (exact h.elim; done)
    | (obtain ⟨rfl, h⟩ := h
       exact .of (.lit (.int _ _)) trivial h fun w _ => by simp [binOp, Op.intArith, Op.intBits, SV.den]; done)
    | exact .of (.lit (.int _ _)) trivial h.2 fun w _ => by simp [binOp, Op.shift, SV.den, Int.not_lt.2 h.1]
theorem bin_sound {nw mw : Bool} {op : BinOp} {t : TypeId} {X Y : Operand} {x y : SV} (hτ : TysOK P τ) (h : binVC P nw mw op t (τ t) x y H n κ) :
    PureRes P B H n (do pure (.value (← (do eqGuard op t X Y (x.den B) (y.den B); binOp op t (x.den B) (y.den B))))) κ := by
  unfold binVC at h
  split at h
  · rename_i a b
    have := int_sound (P := P) (B := B) (t := t) h
    obtain ⟨v, xx, h1, h2, h3, h4⟩ := this
    refine ⟨v, xx, h1, h2, h3, fun w hw => ?_⟩
    have h5 := h4 w hw
    have he := eqGuard_int (P := P) op t X Y .i64 .i64 a b w
    simp only [Sem.run_bind, SV.den] at h5 ⊢
    rw [he]
    exact h5
  · rename_i k a k' b
    obtain ⟨v, xx, h1, h2, h3, h4⟩ := num_sound (P := P) (B := B) (t := t) h
    refine ⟨v, xx, h1, h2, h3, fun w hw => ?_⟩
    have h5 := h4 w hw
    have he := eqGuard_int (P := P) op t X Y k k' a b w
    simp only [Sem.run_bind, SV.den] at h5 ⊢
    rw [he]
    exact h5
  · rename_i k a b
    obtain ⟨v, xx, h1, h2, h3, h4⟩ := num_sound (P := P) (B := B) (t := t) h
    refine ⟨v, xx, h1, h2, h3, fun w hw => ?_⟩
    have h5 := h4 w hw
    have he := eqGuard_int (P := P) op t X Y k .i64 a b w
    simp only [Sem.run_bind, SV.den] at h5 ⊢
    rw [he]
    exact h5
  · rename_i a b
    obtain ⟨hk, h⟩ := h
    have hu := und_bool hτ hk
    have he := eqGuard_bool (P := P) op t X Y a b
    cases op <;> simp only at h
    · exact .of (.bool _) trivial h fun w _ => by
        have h1 := he w
        have h2 := run_eql_bool (P := P) w t a b hu
        simp [SV.den, h1, h2]
    · exact .of (.bool _) trivial h fun w _ => by
        have h1 := he w
        have h2 := run_neq_bool (P := P) w t a b hu
        simp [SV.den, h1, h2]
  · rename_i L M
    obtain ⟨hE, hL, hM, h⟩ := h
    have hE := hE L M hL hM
    cases op <;> simp only at h
    · refine .of (.bool (decide (L = M))) trivial h fun w _ => ?_
      have h1 := (hE w).1 X Y
      have h3 := (hE w).2.2
      simp [SV.den, h1, binOp, h3]
    · refine .of (.bool (!decide (L = M))) trivial h fun w _ => ?_
      have h1 := (hE w).2.1 X Y
      have h3 := (hE w).2.2
      simp [SV.den, h1, binOp, h3]
  · exact h.elim

theorem get_ints_lt (L : List Int) (k : Nat) (h : k < L.length) : (ints L)[k]? = some (.int .i64 (L.getD k 0)) := by
  rw [get_ints, List.getElem?_eq_getElem h]; simp [List.getD, List.getElem?_eq_getElem h]
theorem get_bls_lt (L : List Bool) (k : Nat) (h : k < L.length) : (bls L)[k]? = some (.bool (L.getD k false)) := by
  rw [get_bls, List.getElem?_eq_getElem h]; simp [List.getD, List.getElem?_eq_getElem h]
theorem cell_at {w : World} {b off : Nat} {c : Array Value} {e : TypeId} {fz : Nat × Nat} {v : Value} (hb : w.heap[b]? = some (.cells c e fz)) (hv : c[off]? = some v) : w.cell? ⟨b, off, none⟩ = some v := by
  simp [World.cell?, hb, hv]

theorem run_loadVar_sca {t : TypeId} {b off : Nat} {v : Value} (hτ : TysOK P τ) (hk : (τ t).k.isSca = true) (w : World) (hc : w.cell? ⟨b, off, none⟩ = some v) : (loadVar t ⟨b, off, none⟩).run P w = .ok v w := by
  obtain ⟨d, hu, hd⟩ := und_sca hτ hk
  unfold loadVar
  simp [run_isAgg_of hu, hd, hc]

theorem run_loadVar_agg {t : TypeId} {b off : Nat} {c : Array Value} {e : TypeId} {fz : Nat × Nat} {d : TypeDesc} (hτ : TysOK P τ) (hu : P.underlying t = some d) (hd : tdAgg d = true) (hk : (τ t).k ≠ .other) (w : World)
    (hb : w.heap[b]? = some (.cells c e fz)) (hl : off + (τ t).size ≤ c.size) : (loadVar t ⟨b, off, none⟩).run P w = .ok (.agg ((c.toList.drop off).take (τ t).size).toArray) w := by
  unfold loadVar
  have hlen : ((c.toList.drop off).take (τ t).size).length = (τ t).size := by simp; omega
  have := run_loadCells_list (P := P) w ⟨b, off, none⟩ ((c.toList.drop off).take (τ t).size) (fun j v hv => by
    have hj : j < (τ t).size := by
      rcases Nat.lt_or_ge j (τ t).size with h | h
      · exact h
      · rw [List.getElem?_eq_none (by omega)] at hv; cases hv
    have hadd : (⟨b, off, none⟩ : Addr).add j = ⟨b, off + j, none⟩ := by unfold Addr.add; split <;> simp_all
    rw [hadd]
    refine cell_at hb ?_
    rw [List.getElem?_take, if_pos hj, List.getElem?_drop] at hv
    simpa using hv)
  rw [hlen] at this
  simp [run_isAgg_of hu, hd, run_info hτ hk, this]

theorem load_sound {t : TypeId} {a : SV} (hτ : TysOK P τ) (hH : hwf n H) (h : loadVC (τ t) a H n κ) :
    PureRes P B H n (do pure (.value (← Instr.loadAt t (a.den B)))) κ := by
  unfold loadVC at h
  split at h
  · rename_i b off
    unfold loadB at h
    split at h
    · rename_i L e hg
      have hb : ∀ w, HR B H w → w.heap[B b]? = some (.cells (ints L) e (0, 0)) := fun w hw => hw.at_ b _ hg rfl
      split at h
      · rename_i hk
        refine .of (.int _) trivial h.2 fun w hw => ?_
        have hc : w.cell? ⟨B b, off, none⟩ = some (.int .i64 (L.getD off 0)) := cell_at (hb w hw) (by first | rw [get_ints_lt _ _ h.1] | rw [get_bls_lt _ _ h.1])
        simp [SV.den, Instr.loadAt, Instr.sureAddr, run_loadVar_sca hτ (by rw [hk]; rfl) w hc]
      · rename_i k e' hk
        refine .of (.arr _) trivial h.2 fun w hw => ?_
        have := run_loadVar_agg hτ (und_arr hτ hk) rfl (by rw [hk]; simp) w (hb w hw) (off := off) (by simpa using h.1)
        simp [SV.den, Instr.loadAt, Instr.sureAddr, this, ints, List.map_take, List.map_drop]
      · rename_i fs hk
        obtain ⟨F, hF, _⟩ := und_str hτ hk
        refine .of (.arr _) trivial h.2 fun w hw => ?_
        have := run_loadVar_agg hτ hF rfl (by rw [hk]; simp) w (hb w hw) (off := off) (by simpa using h.1)
        simp [SV.den, Instr.loadAt, Instr.sureAddr, this, ints, List.map_take, List.map_drop]
      · exact h.elim
    · rename_i L e hg
      have hb : ∀ w, HR B H w → w.heap[B b]? = some (.cells (bls L) e (0, 0)) := fun w hw => hw.at_ b _ hg rfl
      split at h
      · rename_i hk
        refine .of (.bool _) trivial h.2 fun w hw => ?_
        have hc : w.cell? ⟨B b, off, none⟩ = some (.bool (L.getD off false)) := cell_at (hb w hw) (by first | rw [get_ints_lt _ _ h.1] | rw [get_bls_lt _ _ h.1])
        simp [SV.den, Instr.loadAt, Instr.sureAddr, run_loadVar_sca hτ (by rw [hk]; rfl) w hc]
      · rename_i k e' hk
        refine .of (.barr _) trivial h.2 fun w hw => ?_
        have := run_loadVar_agg hτ (und_arr hτ hk) rfl (by rw [hk]; simp) w (hb w hw) (off := off) (by simpa using h.1)
        simp [SV.den, Instr.loadAt, Instr.sureAddr, this, bls, List.map_take, List.map_drop]
      · exact h.elim
    · rename_i l e hg
      split at h
      · rename_i fs hk
        obtain ⟨F, hF, _⟩ := und_str hτ hk
        refine .of (.stc _) ?_ h.2 fun w hw => ?_
        · simp only [SV.wf, wfL_iff]
          intro x hx
          exact (wfL_iff n l).1 ((hH b _ hg).2) x (List.mem_of_mem_drop (List.mem_of_mem_take hx))
        · have hb := hw.at_ b _ hg rfl
          have := run_loadVar_agg hτ hF rfl (by rw [hk]; simp) w hb (off := off) (by simpa using h.1)
          simp [SV.den, Instr.loadAt, Instr.sureAddr, this, denL_map, List.map_take, List.map_drop]
      obtain ⟨hk, h⟩ := h
      unfold cellM at h
      split at h
      · rename_i v hv
        refine .of v ?_ h.2 fun w hw => ?_
        · exact (wfL_iff n l).1 ((hH b _ hg).2) v (List.mem_of_getElem? hv)
        · have hb := hw.at_ b _ hg rfl
          have hc : w.cell? ⟨B b, off, none⟩ = some (v.den B) := cell_at hb (by simp [denL_map, hv])
          simp [SV.den, Instr.loadAt, Instr.sureAddr, run_loadVar_sca hτ hk w hc]
      · exact h.elim
    · rename_i o L hg
      have hb : ∀ w, HR B H w → ∃ (c : Array Value) (e : TypeId) (fz : Nat × Nat), w.heap[B b]? = some (.cells c e fz) ∧ ∀ i, i < L.length → c[o + i]? = some (.int .i64 (L.getD i 0)) := fun w hw => hw.at_ b _ hg rfl
      have agg : ∀ (k : Nat) (c : Array Value), 0 < k → o ≤ off → off + k ≤ o + L.length → (∀ i, i < L.length → c[o + i]? = some (.int .i64 (L.getD i 0))) → off + k ≤ c.size ∧ ((c.toList.drop off).take k).toArray = ints ((L.drop (off - o)).take k) := by
        intro k c h0 h1 h2 hc
        have hel : ∀ j, j < k → c[off + j]? = some (.int .i64 (L.getD (off - o + j) 0)) := fun j hj => by
          have := hc (off - o + j) (by omega)
          rw [show o + (off - o + j) = off + j by omega] at this
          exact this
        refine ⟨?_, ?_⟩
        · have := (Array.getElem?_eq_some_iff.1 (hc (off + k - 1 - o) (by omega))).1
          omega
        · apply Array.ext'
          apply List.ext_getElem?
          intro j
          simp only [List.getElem?_take, toList_ints, List.getElem?_map, List.getElem?_drop]
          split
          · rename_i hj
            rw [Array.getElem?_toList, hel j hj]
            simp [List.getD, List.getElem?_eq_getElem (show off - o + j < L.length by omega)]
          · rfl
      split at h
      · rename_i hk
        refine .of (.int _) trivial h.2.2 fun w hw => ?_
        obtain ⟨c, e, fz, g1, g2⟩ := hb w hw
        have g3 := g2 (off - o) (by omega)
        rw [show o + (off - o) = off by omega] at g3
        have hc : w.cell? ⟨B b, off, none⟩ = some (.int .i64 (L.getD (off - o) 0)) := cell_at g1 g3
        simp [SV.den, Instr.loadAt, Instr.sureAddr, run_loadVar_sca hτ (by rw [hk]; rfl) w hc]
      · rename_i k e' hk
        refine .of (.arr _) trivial h.2.2.2 fun w hw => ?_
        obtain ⟨c, e, fz, g1, g2⟩ := hb w hw
        obtain ⟨g3, g4⟩ := agg _ c h.1 h.2.1 h.2.2.1 g2
        have := run_loadVar_agg hτ (und_arr hτ hk) rfl (by rw [hk]; simp) w g1 (off := off) g3
        simp [SV.den, Instr.loadAt, Instr.sureAddr, this, g4]
      · rename_i fs hk
        obtain ⟨F, hF, _⟩ := und_str hτ hk
        refine .of (.arr _) trivial h.2.2.2 fun w hw => ?_
        obtain ⟨c, e, fz, g1, g2⟩ := hb w hw
        obtain ⟨g3, g4⟩ := agg _ c h.1 h.2.1 h.2.2.1 g2
        have := run_loadVar_agg hτ hF rfl (by rw [hk]; simp) w g1 (off := off) g3
        simp [SV.den, Instr.loadAt, Instr.sureAddr, this, g4]
      · exact h.elim
    · rename_i o L hg
      have hb : ∀ w, HR B H w → ∃ (c : Array Value) (e : TypeId) (fz : Nat × Nat), w.heap[B b]? = some (.cells c e fz) ∧ ∀ i, i < L.length → c[o + i]? = some (.int .u8 (L.getD i 0)) := fun w hw => hw.at_ b _ hg rfl
      split at h
      · rename_i hk
        refine .of (.lit (.int .u8 _)) trivial h.2.2 fun w hw => ?_
        obtain ⟨c, e, fz, g1, g2⟩ := hb w hw
        have g3 := g2 (off - o) (by omega)
        rw [show o + (off - o) = off by omega] at g3
        have hc : w.cell? ⟨B b, off, none⟩ = some (.int .u8 (L.getD (off - o) 0)) := cell_at g1 g3
        simp [SV.den, Instr.loadAt, Instr.sureAddr, run_loadVar_sca hτ (by rw [hk]; rfl) w hc]
      · exact h.elim
    · exact h.elim
  · exact h.elim

theorem add_addr (b off k : Nat) : (⟨b, off, none⟩ : Addr).add k = ⟨b, off + k, none⟩ := by unfold Addr.add; split <;> simp_all

theorem extract_sound {v : SV} {i : Nat} (hv : v.wf n) (h : extractVC v i H n κ) : PureRes P B H n (do pure (.value (← Instr.extract (v.den B) i))) κ := by
  unfold extractVC at h
  split at h
  · rename_i l
    split at h
    · rename_i x hx
      refine .of x ((wfL_iff n l).1 (by simpa [SV.wf] using hv) x (List.mem_of_getElem? hx)) h fun w _ => ?_
      simp [SV.den, Instr.extract, denL_map, hx]
    · exact h.elim
  · exact h.elim

theorem fieldAddr_sound {t : TypeId} {x : SV} {f : Nat} (hτ : TysOK P τ) (hx : x.wf n) (h : fieldAddrVC τ (τ t) x f H n κ) : PureRes P B H n (do pure (.value (← Instr.fieldAt t (x.den B) f))) κ := by
  unfold fieldAddrVC at h
  split at h
  · rename_i fs b off hk
    split at h
    · rename_i o ft hf
      obtain ⟨h1, h2, h3⟩ := h
      obtain ⟨F, hF, hfs⟩ := und_str hτ hk
      refine .of (.ptr b (off + o)) (by simpa [SV.wf] using hx) h3 fun w _ => ?_
      have : ∃ g, F[f]? = some g ∧ g.offset = o ∧ g.type = ft := by
        rw [← hfs] at hf
        simp at hf
        exact hf
      obtain ⟨g, hg, rfl, rfl⟩ := this
      simp [SV.den, Instr.fieldAt, run_underlying hF, hg, Instr.sureAddr, fieldPlace, run_info hτ h1, h2, add_addr]
    · exact h.elim
  · exact h.elim

theorem part_sound {t : TypeId} {L : List Int} {off : Nat} (hτ : TysOK P τ) (h : partVC (τ t) L off H n κ) : PureRes P B H n (do pure (.value (← part t (ints L) off))) κ := by
  unfold partVC at h
  split at h
  · rename_i hk
    refine .of (.int _) trivial h.2 fun w _ => ?_
    have hc := get_ints_lt L off h.1
    simp only [part, Sem.run_bind, run_isAgg_of (und_int hτ hk), tdAgg, hc, Result.andThen_ok]
    simp [SV.den]
  · rename_i k e hk
    refine .of (.arr _) trivial h fun w _ => ?_
    simp [part, run_isAgg_of (und_arr hτ hk), tdAgg, run_info hτ (t := t) (by rw [hk]; simp), SV.den, ints, List.map_take, List.map_drop]
  · rename_i fs hk
    obtain ⟨F, hF, _⟩ := und_str hτ hk
    refine .of (.arr _) trivial h fun w _ => ?_
    simp [part, run_isAgg_of hF, tdAgg, run_info hτ (t := t) (by rw [hk]; simp), SV.den, ints, List.map_take, List.map_drop]
  · exact h.elim


theorem field_sound {t : TypeId} {x : SV} {f : Nat} (hτ : TysOK P τ) (hx : x.wf n) (h : fieldVC τ (τ t) x f H n κ) : PureRes P B H n (do pure (.value (← Instr.field t (x.den B) f))) κ := by
  unfold fieldVC at h
  split at h
  · rename_i fs L hk
    split at h
    · rename_i o ft hf
      obtain ⟨F, hF, hfs⟩ := und_str hτ hk
      have : ∃ g, F[f]? = some g ∧ g.offset = o ∧ g.type = ft := by
        rw [← hfs] at hf
        simp at hf
        exact hf
      obtain ⟨g, hg, rfl, rfl⟩ := this
      obtain ⟨v, xx, h1, h2, h3, h4⟩ := part_sound (P := P) (B := B) hτ h
      refine ⟨v, xx, h1, h2, h3, fun w hw => ?_⟩
      have h5 := h4 w hw
      simp only [Sem.run_bind] at h5
      simp [SV.den, Instr.field, run_underlying hF, hg, asAgg]
      exact h5
    · exact h.elim
  · rename_i fs l hk
    split at h
    · rename_i o ft hf
      obtain ⟨hsc, h⟩ := h
      unfold cellM at h
      split at h
      · rename_i v hv
        obtain ⟨F, hF, hfs⟩ := und_str hτ hk
        have : ∃ g, F[f]? = some g ∧ g.offset = o ∧ g.type = ft := by
          rw [← hfs] at hf
          simp at hf
          exact hf
        obtain ⟨g, hg, rfl, rfl⟩ := this
        obtain ⟨d, hu, hd⟩ := und_sca hτ hsc
        refine .of v ((wfL_iff n l).1 (by simpa [SV.wf] using hx) v (List.mem_of_getElem? hv)) h.2 fun w _ => ?_
        simp [SV.den, Instr.field, run_underlying hF, hg, asAgg, part, run_isAgg_of hu, hd, denL_map, hv]
      · exact h.elim
    · exact h.elim
  · exact h.elim
theorem indexAddr_sound {t : TypeId} {x i : SV} (hτ : TysOK P τ) (hx : x.wf n) (h : indexAddrVC τ (τ t) x i H n κ) : PureRes P B H n (do pure (.value (← Instr.indexAt t (x.den B) (i.den B)))) κ := by
  unfold indexAddrVC at h
  split at h
  · rename_i len e b off z hk
    obtain ⟨h1, h2, h3, h4⟩ := h
    refine .of (.ptr b _) (by simpa [SV.wf] using hx) h4 fun w _ => ?_
    simp [SV.den, Instr.indexAt, asIntOf, run_underlying (und_arr hτ hk), Instr.sureAddr, h2, h3, run_info hτ h1, add_addr]
  · rename_i e b off len cap z hk
    obtain ⟨h1, h2, h3, h4⟩ := h
    refine .of (.ptr b _) (by simpa [SV.wf] using hx) h4 fun w _ => ?_
    simp [SV.den, Instr.indexAt, asIntOf, run_underlying (und_sl hτ hk), h2, h3, run_info hτ h1, add_addr]
  · exact h.elim

theorem index_sound {t : TypeId} {x i : SV} (hτ : TysOK P τ) (h : indexVC τ (τ t) x i H n κ) : PureRes P B H n (do pure (.value (← Instr.index t (x.den B) (i.den B)))) κ := by
  unfold indexVC at h
  split at h
  · rename_i len e L z hk
    obtain ⟨h2, h3, h4⟩ := h
    have hne : (τ e).k ≠ .other := by
      unfold partVC at h4
      split at h4 <;> first | (rename_i hk; rw [hk]; simp) | (rename_i a b hk; rw [hk]; simp) | exact h4.elim
    obtain ⟨v, xx, g1, g2, g3, g4⟩ := part_sound (P := P) (B := B) hτ h4
    refine ⟨v, xx, g1, g2, g3, fun w hw => ?_⟩
    have h5 := g4 w hw
    simp only [Sem.run_bind] at h5
    simp [SV.den, Instr.index, asIntOf, run_underlying (und_arr hτ hk), h2, h3, run_info hτ hne]
    exact h5
  · exact h.elim

theorem bnd_sound {o : Option SV} {dflt hi : Nat} {κ' : Nat → Prop} (h : bndVC o dflt hi κ') :
    ∃ l, κ' l ∧ (match o with | none => l = dflt | some v => l ≤ hi ∧ ∃ z : Int, v.den B = .int .i64 z ∧ 0 ≤ z ∧ z ≤ hi ∧ z.toNat = l) := by
  unfold bndVC at h
  split at h
  · exact ⟨_, h, rfl⟩
  · rename_i z
    obtain ⟨h1, h2, h3⟩ := h
    exact ⟨_, h3, by omega, z, rfl, h1, h2, rfl⟩
  · exact h.elim
theorem run_sliceBound {v : Value} {z : Int} {y : Nat} {c : BoundsCode} (hv : v = .int .i64 z) (h0 : 0 ≤ z) (h1 : z ≤ y) (w : World) : (Instr.sliceBound v y c).run P w = .ok z.toNat w := by
  subst hv
  simp [Instr.sliceBound, asIntOf, h0, h1]
/-- The bounds of a slice expression without a third index. -/
theorem run_bounds {isS : Bool} {len cap hb : Nat} {lo hi : Option SV} {κ' : Nat → Nat → Prop} (hhb : hb = cap) (h : bndVC hi len hb fun h => bndVC lo 0 h fun l => κ' h l) :
    ∃ h l, κ' h l ∧ ∀ w, (Instr.sliceBounds isS len cap (lo.map (SV.den B)) (hi.map (SV.den B)) none).run P w = .ok (l, h, cap) w := by
  subst hhb
  obtain ⟨hh, h1, h2⟩ := bnd_sound (B := B) h
  obtain ⟨l, h3, h4⟩ := bnd_sound (B := B) h1
  refine ⟨hh, l, h3, fun w => ?_⟩
  unfold Instr.sliceBounds
  cases hi with
  | none =>
    simp only at h2
    subst h2
    cases lo with
    | none => simp only at h4; subst h4; simp
    | some v =>
      obtain ⟨h5, z, hz, h6, h7, h8⟩ := h4
      simp [run_sliceBound hz h6 h7, h8]
  | some u =>
    obtain ⟨h9, y, hy, h10, h11, h12⟩ := h2
    cases lo with
    | none => simp only at h4; subst h4; simp [run_sliceBound hy h10 h11, h12]
    | some v =>
      obtain ⟨h5, z, hz, h6, h7, h8⟩ := h4
      simp [run_sliceBound hy h10 h11, h12, run_sliceBound hz h6 h7, h8]

theorem slice_sound {t : TypeId} {x : SV} {lo hi : Option SV} (hτ : TysOK P τ) (hx : x.wf n) (h : sliceVC τ (τ t) x lo hi H n κ) :
    PureRes P B H n (do pure (.value (← Instr.sliceAt t (x.den B) (lo.map (SV.den B)) (hi.map (SV.den B)) none))) κ := by
  unfold sliceVC at h
  split at h
  · rename_i len e b off hk
    obtain ⟨h1, h2⟩ := h
    obtain ⟨hh, l, h3, h4⟩ := run_bounds (P := P) (B := B) (isS := false) rfl h2
    refine .of (.slice b _ _ _) (by simpa [SV.wf] using hx) h3 fun w _ => ?_
    simp [SV.den, Instr.sliceAt, run_underlying (und_arr hτ hk), Instr.sureAddr, h4, run_info hτ h1, cutOff]
    split <;> simp [add_addr]
  · rename_i e b off len cap hk
    obtain ⟨h1, h2⟩ := h
    obtain ⟨hh, l, h3, h4⟩ := run_bounds (P := P) (B := B) (isS := true) rfl h2
    refine .of (.slice b _ _ _) (by simpa [SV.wf] using hx) h3 fun w _ => ?_
    simp [SV.den, Instr.sliceAt, Instr.slice, run_underlying (und_sl hτ hk), h4, run_info hτ h1, cutOff]
    split <;> simp [add_addr]
  · rename_i e hk
    obtain ⟨h1, h2⟩ := h
    obtain ⟨hh, l, h3, h4⟩ := run_bounds (P := P) (B := B) (isS := true) rfl h2
    have h5 := bnd_sound (B := B) h2
    obtain ⟨hh', h6, h7⟩ := h5
    obtain ⟨l', h8, h9⟩ := bnd_sound (B := B) h6
    have hz := h4 default
    refine .of .nils trivial h3 fun w _ => ?_
    have hb : hh = 0 := by
      have := h4 w
      unfold Instr.sliceBounds at this
      cases hi with
      | none =>
        cases lo with
        | none => simp at this; omega
        | some v =>
          simp only at h7; subst h7
          obtain ⟨_, z, hz, g1, g2, _⟩ := h9
          simp [run_sliceBound hz g1 g2] at this; omega
      | some u =>
        obtain ⟨g0, y, hy, g1, g2, g3⟩ := h7
        cases lo with
        | none => simp [run_sliceBound hy g1 g2] at this; omega
        | some v =>
          obtain ⟨_, z, hz, g4, g5, _⟩ := h9
          have g6 : z ≤ (y.toNat : Nat) := by omega
          simp [run_sliceBound hy g1 g2, run_sliceBound hz g4 g6] at this; omega
    subst hb
    simp [SV.den, Instr.sliceAt, Instr.slice, run_underlying (und_sl hτ hk), h4, run_info hτ h1]
  · exact h.elim


theorem foldl_set (M : List Value) : ∀ (off k : Nat) (cs : Array Value), off + k + M.length ≤ cs.size →
    (M.zipIdx k).foldl (fun cs (x : Value × Nat) => cs.setIfInBounds (off + x.2) x.1) cs = (cs.toList.take (off + k) ++ M ++ cs.toList.drop (off + k + M.length)).toArray := by
  induction M with
  | nil => intro off k cs _; simp
  | cons v M ih =>
    intro off k cs h
    simp only [List.length_cons] at h
    simp only [List.zipIdx_cons, List.foldl_cons]
    rw [ih off (k + 1) _ (by simp; omega)]
    congr 1
    have e := list_seg_step cs.toList (off + k) v M (by simp; omega)
    simpa [Array.toList_setIfInBounds, Nat.add_assoc] using e

theorem fill_sound {B : Nat → Nat} {pl : Nat → Option (Nat × Nat)} : ∀ (parts : List (Nat × SV)) (cells L : List Int), fillI pl cells parts = some L →
    Instr.fill pl (ints cells) (parts.map fun p => (p.1, p.2.den B)) = some (ints L)
  | [], cells, L, h => by simp [fillI] at h; subst h; simp [Instr.fill]
  | (i, v) :: rest, cells, L, h => by
    unfold fillI at h
    split at h
    · rename_i off x hp
      split at h
      · rename_i hlt
        have ih := fill_sound (B := B) (pl := pl) rest _ L h
        simp only [List.map_cons, Instr.fill, hp, SV.den, Value.cells]
        simp only [List.size_toArray, List.length_cons, List.length_nil, size_ints]
        rw [if_neg (by simp; omega)]
        rw [← ih]
        congr 1
        simp [ints, List.zipIdx]
      · cases h
    · rename_i off s M hp
      split at h
      · rename_i hlt
        have ih := fill_sound (B := B) (pl := pl) rest _ L h
        simp only [List.map_cons, Instr.fill, hp, SV.den]
        split
        · rename_i hc; simp [Value.cells] at hc; omega
        rw [← ih]
        congr 1
        simp only [Value.cells]
        have := foldl_set (M.map (Value.int .i64)) off 0 (ints cells) (by simp; omega)
        simp only [Nat.add_zero, toList_ints, List.length_map] at this
        rw [← Array.foldl_toList]
        simp only [Array.toList_zipIdx, toList_ints]
        rw [this]
        simp [ints, List.map_take, List.map_drop]
      · cases h
    · cases h

theorem ty_info {t : TypeId} (hτ : TysOK P τ) (hk : (τ t).k ≠ .other) : ∃ i, P.info? t = some i ∧ i.size = (τ t).size ∧ i.bytes = (τ t).bytes ∧ ((τ t).z.known = true → i.zero = some ((τ t).z.den fun _ => 0)) := (hτ t).info hk

theorem run_zero {t : TypeId} {Z : List Int} (hτ : TysOK P τ) (hk : (τ t).k ≠ .other) (hz : (τ t).z = .arr Z) (w : World) : (zeroValue t).run P w = .ok (.agg (ints Z)) w := by
  obtain ⟨i, hi, _, _, h⟩ := ty_info hτ hk
  have := h (by rw [hz]; rfl)
  rw [hz] at this
  simp [zeroValue, typeInfo, hi, this, SV.den]

theorem run_fields {f : Field → Nat × Nat} {F : Array Field} {g : Field → Sem (Nat × Nat)} (hg : ∀ x ∈ F.toList, ∀ w, (g x).run P w = .ok (f x) w) (w : World) : (F.mapM g).run P w = .ok (F.map f) w := by
  have key : ∀ (l : List Field), (∀ x ∈ l, ∀ w, (g x).run P w = .ok (f x) w) → ∀ w, (l.mapM g).run P w = .ok (l.map f) w := by
    intro l
    induction l with
    | nil => intro _ w; simp
    | cons x l ih =>
      intro hl w
      simp only [List.mapM_cons, Sem.run_bind]
      rw [hl x (by simp) w]
      simp only [Result.andThen_ok]
      rw [ih (fun y hy => hl y (by simp [hy])) w]
      simp
  have := key F.toList hg w
  rw [Array.mapM_eq_mapM_toList]
  simp only [Sem.run_map, this, Result.andThen_ok]
  congr 1
  apply Array.ext'
  simp

theorem run_zeroS {t : TypeId} {Z : List SV} (hτ : TysOK P τ) (hk : (τ t).k ≠ .other) (hz : (τ t).z = .stc Z) (w : World) : (zeroValue t).run P w = .ok (.agg (denL (fun _ => 0) Z).toArray) w := by
  obtain ⟨i, hi, _, _, h⟩ := ty_info hτ hk
  have := h (by rw [hz]; rfl)
  rw [hz] at this
  simp [zeroValue, typeInfo, hi, this, SV.den]
theorem oneCell_den {v : SV} (h : oneCellS v = true) (B : Nat → Nat) : (v.den B).cells = #[v.den B] ∧ (v.den B).oneCell' = true := by
  cases v <;> simp only [oneCellS] at h <;> first | (cases h; done) | exact litOne_spec h | exact ⟨rfl, rfl⟩
theorem fillT_sound {B : Nat → Nat} {pl : Nat → Option Nat} : ∀ (parts : List (Nat × SV)) (cells L : List SV), fillT pl cells parts = some L →
    Instr.fill (fun i => (pl i).map fun o => (o, 1)) (denL B cells).toArray (parts.map fun p => (p.1, p.2.den B)) = some (denL B L).toArray
  | [], cells, L, h => by simp [fillT] at h; subst h; simp [Instr.fill]
  | (i, v) :: rest, cells, L, h => by
    unfold fillT at h
    split at h
    · rename_i off hp hv
      split at h
      · rename_i hlt
        have ih := fillT_sound (B := B) (pl := pl) rest _ L h
        have hc := (oneCell_den hv B).1
        simp only [List.map_cons, Instr.fill, hp, Option.map_some, hc]
        simp only [List.size_toArray, List.length_cons, List.length_nil, length_denL]
        rw [if_neg (by simp; omega)]
        rw [← ih]
        congr 1
        simp [denL_map, List.map_set, List.zipIdx]
      · cases h
    · cases h
theorem fillT_wf {n : Nat} {pl : Nat → Option Nat} : ∀ (parts : List (Nat × SV)) (cells L : List SV), fillT pl cells parts = some L → wfL n cells → (∀ q ∈ parts, q.2.wf n) → wfL n L
  | [], cells, L, h, hc, _ => by simp [fillT] at h; subst h; exact hc
  | (i, v) :: rest, cells, L, h, hc, hp => by
    unfold fillT at h
    split at h
    · split at h
      · refine fillT_wf rest _ L h ?_ fun q hq => hp q (List.mem_cons_of_mem _ hq)
        rw [wfL_iff]
        intro x hx
        rcases List.mem_or_eq_of_mem_set hx with hx | rfl
        · exact (wfL_iff n cells).1 hc x hx
        · exact hp (i, x) (List.mem_cons_self ..)
      · cases h
    · cases h
theorem den_flat1 {v : SV} (h : flat1 v = true) (B B' : Nat → Nat) : v.den B = v.den B' := by cases v <;> simp [flat1] at h <;> rfl
theorem wf_flat1 {v : SV} (h : flat1 v = true) (n : Nat) : v.wf n := by cases v <;> simp [flat1] at h <;> trivial
theorem denL_flat {l : List SV} (h : l.all flat1 = true) (B B' : Nat → Nat) : denL B l = denL B' l := by
  rw [denL_map, denL_map]
  exact List.map_congr_left fun x hx => den_flat1 (List.all_eq_true.1 h x hx) B B'
theorem den_flat {v : SV} (h : flat v = true) (B B' : Nat → Nat) : v.den B = v.den B' := by
  cases v <;> simp only [flat] at h <;> first | (cases h; done) | rfl | (simp only [SV.den]; rw [denL_flat h B B'])
theorem wf_flat {v : SV} (h : flat v = true) (n : Nat) : v.wf n := by
  cases v <;> simp only [flat] at h <;> first | (cases h; done) | trivial | (simp only [SV.wf, wfL_iff]; exact fun x hx => wf_flat1 (List.all_eq_true.1 h x hx) n)
theorem build_sound {t : TypeId} {parts : List (Nat × SV)} (hτ : TysOK P τ) (hwp : ∀ q ∈ parts, q.2.wf n) (h : buildVC τ (τ t) parts H n κ) :
    PureRes P B H n (do pure (.value (← Instr.build t (parts.map fun p => (p.1, p.2.den B)).toArray))) κ := by
  unfold buildVC at h
  split at h
  · rename_i Z k e hz hk
    obtain ⟨h1, h⟩ := h
    split at h
    · rename_i L hL
      have hne : (τ t).k ≠ .other := by rw [hk]; simp
      have hf := fill_sound (B := B) _ _ _ hL
      refine .of (.arr L) trivial h fun w _ => ?_
      simp [Instr.build, run_zero hτ hne hz, run_underlying (und_arr hτ hk), run_info hτ h1, Value.cells, hf, SV.den]
    · exact h.elim
  · rename_i Z fs hz hk
    obtain ⟨h1, h⟩ := h
    split at h
    · rename_i L hL
      have hne : (τ t).k ≠ .other := by rw [hk]; simp
      obtain ⟨F, hF, hfs⟩ := und_str hτ hk
      have hf := fill_sound (B := B) _ _ _ hL
      refine .of (.arr L) trivial h fun w _ => ?_
      have hm := run_fields (P := P) (f := fun f => (f.offset, (τ f.type).size)) (F := F) (g := fun f => do pure (f.offset, ← sizeOf f.type)) (fun x hx w => by
        have hx' : (x.offset, x.type) ∈ fs := by rw [← hfs]; exact List.mem_map.2 ⟨x, hx, rfl⟩
        have := List.all_eq_true.1 h1 _ hx'
        have hne' : (τ x.type).k ≠ .other := by intro hh; simp [hh] at this
        simp [run_info hτ hne']) w
      have hpl : (fun i => (F.map fun f => (f.offset, (τ f.type).size))[i]?) = fun (i : Nat) => (fs[i]?).map fun (x : Nat × Nat) => (x.1, (τ x.2).size) := by
        funext i
        rw [← hfs]
        simp
        cases F[i]? <;> rfl
      rw [← hpl] at hf
      simp only [Instr.build, Sem.run_bind, run_zero hτ hne hz, Result.andThen_ok, run_underlying hF, hm, Value.cells]
      simp only [hf]
      simp [SV.den]
    · exact h.elim
  · rename_i Z fs hz hk
    obtain ⟨hZ, h1, hs1, h⟩ := h
    split at h
    · rename_i L hL
      have hne : (τ t).k ≠ .other := by rw [hk]; simp
      obtain ⟨F, hF, hfs⟩ := und_str hτ hk
      have hf := fillT_sound (B := B) _ _ _ hL
      refine .of (.stc L) ?_ h fun w _ => ?_
      · simp only [SV.wf]
        refine fillT_wf parts Z L hL ?_ hwp
        rw [wfL_iff]
        exact fun x hx => wf_flat1 (List.all_eq_true.1 hZ x hx) n
      have hm := run_fields (P := P) (f := fun f => (f.offset, (τ f.type).size)) (F := F) (g := fun f => do pure (f.offset, ← sizeOf f.type)) (fun x hx w => by
        have hx' : (x.offset, x.type) ∈ fs := by rw [← hfs]; exact List.mem_map.2 ⟨x, hx, rfl⟩
        have := List.all_eq_true.1 h1 _ hx'
        have hne' : (τ x.type).k ≠ .other := by intro hh; simp [hh] at this
        simp [run_info hτ hne']) w
      have hpl : (fun i => (F.map fun f => (f.offset, (τ f.type).size))[i]?) = fun (i : Nat) => ((fs[i]?).map fun (x : Nat × Nat) => x.1).map fun o => (o, 1) := by
        funext i
        have hsi : ∀ x ∈ fs, (τ x.2).size = 1 := fun x hx => by simpa using List.all_eq_true.1 hs1 x hx
        rw [← hfs] at hsi ⊢
        cases hq : F[i]? with
        | none => simp [hq]
        | some g =>
          have := hsi (g.offset, g.type) (List.mem_map.2 ⟨g, by
            have := List.mem_of_getElem? (l := F.toList) (i := i) (a := g) (by simpa using hq)
            exact this, rfl⟩)
          simp only at this
          simp [hq, this]
      rw [← hpl] at hf
      rw [denL_flat hZ B (fun _ => 0)] at hf
      simp only [Instr.build, Sem.run_bind, run_zeroS hτ hne hz, Result.andThen_ok, run_underlying hF, hm, Value.cells]
      simp only [hf]
      simp [SV.den]
    · exact h.elim
  · exact h.elim


theorem length_mpE (bv : Bool) : ∀ (l : List (List Int × Int)) (b : Nat), (mpE bv l b).length = l.length
  | [], _ => rfl
  | (k, v) :: r, b => by simp [mpE, length_mpE bv r (b + 1)]
def mfind (bv : Bool) (l : List (List Int × Int)) (K : List Int) (i : Nat) : Option (Nat × Value) := match l with
  | [] => none
  | (k, v) :: r => if K = k then some (i, (mvS bv v).den fun _ => 0) else mfind bv r K (i + 1)
theorem mfind_none {bv : Bool} {K : List Int} : ∀ {l : List (List Int × Int)} {i : Nat}, mfind bv l K i = none → mget l K = 0 ∧ mhas l K = false
  | [], _, _ => ⟨rfl, rfl⟩
  | (k, v) :: r, i, h => by
    unfold mfind at h
    split at h
    · cases h
    · rename_i hk
      have := mfind_none h
      simp [mget, mhas, hk, this]
theorem mfind_some {bv : Bool} {K : List Int} : ∀ {l : List (List Int × Int)} {i : Nat} {q : Nat × Value}, mfind bv l K i = some q → q.2 = (mvS bv (mget l K)).den (fun _ => 0) ∧ mhas l K = true
  | [], _, _, h => by cases h
  | (k, v) :: r, i, q, h => by
    unfold mfind at h
    split at h
    · rename_i hk
      cases h
      simp [mget, mhas, hk]
    · rename_i hk
      have := mfind_some h
      simp [mget, mhas, hk, this]
theorem run_getMap {w : World} {i c : Nat} {es : Array MapEntry} (h : w.heap[i]? = some (.map es c)) : (getObj i).run P w = .ok (.map es c) w := by
  simp [getObj, Sem.run, h]
theorem len_sound {t : TypeId} {x : SV} (hτ : TysOK P τ) (h : lenVC (τ t) x H n κ) (ts : Array TypeId) (ty : TypeId) (ht : ts[0]? = some t) :
    PureRes P B H n (do pure (.value (← Builtin.len_ ts ty #[x.den B]))) κ := by
  unfold lenVC at h
  split at h
  · rename_i e b off len cap hk
    refine .of (.int len) trivial h fun w _ => ?_
    simp [Builtin.len_, ht, run_underlying (und_sl hτ hk), SV.den, goInt]
  · rename_i e hk
    refine .of (.int 0) trivial h fun w _ => ?_
    simp [Builtin.len_, ht, run_underlying (und_sl hτ hk), SV.den, goInt]
  · rename_i len e hk
    refine .of (.int len) trivial h fun w _ => ?_
    simp [Builtin.len_, ht, run_underlying (und_arr hτ hk), SV.den, goInt]
  · rename_i k e b hk
    unfold lenMB at h
    split at h
    · rename_i bv l hb
      refine .of (.int l.length) trivial h fun w hw => ?_
      have h1 := hw.at_ b _ hb rfl
      simp only [SObj.sat, SObj.den] at h1
      simp [Builtin.len_, ht, run_underlying (und_mp hτ hk), SV.den, goInt, run_getMap h1, length_mpE]
    · exact h.elim
  · exact h.elim

/-! Maps: a key among the entries. -/
theorem run_find {k : TypeId} {K : List Int} (hK : KeyI P k K.length) (bv : Bool) (w : World) : ∀ (l : List (List Int × Int)) (b i : Nat), keysOK l K.length →
    (Instr.findAsking k (.agg (ints K)) (mpE bv l b) i).run P w = .ok (mfind bv l K i) w
  | [], b, i, _ => by simp [mpE, Instr.findAsking, mfind]
  | (k0, v) :: r, b, i, hl => by
    have h1 := (hK.2.1 K k0 rfl (hl _ (List.mem_cons_self ..)) w).2.2
    have ih := run_find hK bv w r (b + 1) (i + 1) (fun q hq => hl q (List.mem_cons_of_mem _ hq))
    by_cases h : K = k0
    · subst h; simp [mpE, Instr.findAsking, mfind, h1]
    · simp [mpE, Instr.findAsking, mfind, h1, h, ih]
theorem lookup_sound {t : TypeId} {x i : SV} {ok : Bool} (hτ : TysOK P τ) (h : lookupVC P τ (τ t) x i ok H n κ) : PureRes P B H n (do pure (.value (← Instr.lookup t (x.den B) (i.den B) ok))) κ := by
  unfold lookupVC at h
  split at h
  · rename_i k e b K hk
    unfold lookupB at h
    split at h
    · rename_i bv l hb
      obtain ⟨hK, hl, hne, hz, h⟩ := h
      refine .of (lkRes bv ok l K) ?_ h fun w hw => ?_
      · cases bv <;> cases ok <;> simp [lkRes, mvS, SV.wf, wfL]
      · have h1 := hw.at_ b _ hb rfl
        simp only [SObj.sat, SObj.den] at h1
        obtain ⟨iz, hiz, _, _, hz0⟩ := (hτ e).info hne
        have hz1 : (zeroValue e).run P w = .ok ((mz bv).den fun _ => 0) w := by
          have := hz0 (by rw [hz]; cases bv <;> rfl)
          rw [hz] at this
          simp [zeroValue, typeInfo, hiz, this]
        have hf := run_find hK bv w l 0 0 hl
        have hc := hK.2.2 K rfl
        simp only [SV.den, Instr.lookup, Sem.run_bind, run_underlying (und_mp hτ hk), Result.andThen_ok, run_getMap h1, Sem.run_pure, hc, run_findKey_eq w hK.1, hf]
        cases hm : mfind bv l K 0 with
        | none =>
          obtain ⟨m1, m2⟩ := mfind_none hm
          cases bv <;> cases ok <;> simp [hz1, lkRes, m1, m2, mvS, mz, SV.den, denL]
        | some q =>
          obtain ⟨m1, m2⟩ := mfind_some hm
          obtain ⟨q1, q2⟩ := q
          simp only at m1
          subst m1
          cases bv <;> cases ok <;> simp [lkRes, m2, mvS, SV.den, denL]
    · exact h.elim
  · exact h.elim

theorem ofB {α : Type} {s : Sem α} {f : α → Sem Next} {w : World} {a : α} {r : Result Next} (h1 : s.run P w = .ok a w) (h2 : (f a).run P w = r) : (s >>= f).run P w = r := by
  rw [Sem.run_bind, h1]; exact h2

theorem map_eval {S : Env} {N : Nat} {a : Act} (hS : SR B N S a) {l : List Operand} (hk : ∀ x ∈ l, (ev S x).known = true) : l.map a.eval = (l.map (ev S)).map (SV.den B) := by
  rw [List.map_map]
  exact List.map_congr_left fun x hx => ev_den hS x (hk x hx)

theorem knownOf {v : SV} (h : v ≠ .non) : v.known = true := by cases v <;> first | rfl | exact absurd rfl h

theorem fillI_known {pl : Nat → Option (Nat × Nat)} : ∀ (ps : List (Nat × SV)) (c L : List Int), fillI pl c ps = some L → ∀ q ∈ ps, q.2.known = true := by
  intro ps
  induction ps with
  | nil => intro c L _ q hq; cases hq
  | cons q0 ps ih =>
    obtain ⟨i0, v0⟩ := q0
    intro c L hf q hq
    unfold fillI at hf
    split at hf
    · split at hf
      · cases hq with
        | head => rfl
        | tail _ hq => exact ih _ _ hf q hq
      · cases hf
    · split at hf
      · cases hq with
        | head => rfl
        | tail _ hq => exact ih _ _ hf q hq
      · cases hf
    · cases hf

theorem fillT_known {pl : Nat → Option Nat} : ∀ (ps : List (Nat × SV)) (c L : List SV), fillT pl c ps = some L → ∀ q ∈ ps, q.2.known = true := by
  intro ps
  induction ps with
  | nil => intro c L _ q hq; cases hq
  | cons q0 ps ih =>
    obtain ⟨i0, v0⟩ := q0
    intro c L hf q hq
    unfold fillT at hf
    split at hf
    · rename_i hv
      split at hf
      · cases hq with
        | head => exact knownOf fun e => by simp only at e; rw [e] at hv; cases hv
        | tail _ hq => exact ih _ _ hf q hq
      · cases hf
    · cases hf

theorem convI_sound {t : TypeId} {x : Int} (hτ : TysOK P τ) (h : convI (τ t) x H n κ) : ∃ k, P.underlying t = some (.int k) ∧ ∃ v : SV, v.wf n ∧ v.den B = .int k (k.wrap x) ∧ κ v H n := by
  have hk := (hτ t).kd
  unfold convI at h
  split at h
  · rename_i e
    rw [e] at hk
    exact ⟨.i64, hk, .int x, trivial, by rw [wrap_in h.1]; rfl, h.2⟩
  · rename_i k e
    rw [e] at hk
    exact ⟨k, hk, .lit (.int k (k.wrap x)), trivial, rfl, h⟩
  · exact h.elim
theorem conv_sound {s t : TypeId} {v : SV} (hτ : TysOK P τ) (h : convVC (τ s) (τ t) v H n κ) : PureRes P B H n (do pure (.value (← convert s t (v.den B)))) κ := by
  unfold convVC at h
  split at h
  · obtain ⟨h0, h⟩ := h
    obtain ⟨d, hu, _⟩ := und_sca hτ h0
    obtain ⟨k, hk, v, hv, hd, hκ⟩ := convI_sound (B := B) hτ h
    exact .of v hv hκ fun w _ => by simp [convert, run_underlying hu, run_underlying hk, Conv.intToInt, SV.den, hd]
  · obtain ⟨h0, h⟩ := h
    obtain ⟨d, hu, _⟩ := und_sca hτ h0
    obtain ⟨k, hk, v, hv, hd, hκ⟩ := convI_sound (B := B) hτ h
    exact .of v hv hκ fun w _ => by simp [convert, run_underlying hu, run_underlying hk, Conv.intToInt, SV.den, hd]
  · exact h.elim
theorem pure_sound {nw mw : Bool} {o : Oper} {S : Env} {N : Nat} {a : Act} (hτ : TysOK P τ) (hS : SR B N S a) (hwS : swf n S) (hwH : hwf n H) (h : pureVC P τ nw mw o.op S H n κ) :
    PureRes P B H n (execOp a.eval o) κ := by
  unfold execOp
  cases ho : o.op <;> simp only [ho, pureVC] at h ⊢ <;> (try exact h.elim)
  case move x => exact ⟨ev S x, a.eval x, ev_wf hwS x, ev_den hS x, h, fun w _ => rfl⟩
  case assign x => exact ⟨ev S x, a.eval x, ev_wf hwS x, ev_den hS x, h, fun w _ => rfl⟩
  case pick c x y =>
    unfold pickVC at h
    split at h
    · rename_i b hb
      have hc := ev_den hS c (by rw [hb]; rfl)
      rw [hb] at hc
      cases b with
      | true => exact ⟨ev S x, a.eval x, ev_wf hwS x, ev_den hS x, h.1 rfl, fun w _ => by simp [hc, SV.den, asBool]⟩
      | false => exact ⟨ev S y, a.eval y, ev_wf hwS y, ev_den hS y, h.2 rfl, fun w _ => by simp [hc, SV.den, asBool]⟩
    · exact h.elim
  case load t x =>
    have hk : (ev S x).known = true := knownOf fun e => by rw [e] at h; exact h
    rw [ev_den hS x hk]
    exact load_sound hτ hwH h
  case binOp op t x y yt =>
    have hk : (ev S x).known = true ∧ (ev S y).known = true := by
      unfold binVC at h
      split at h <;> first | exact h.elim | (rename_i e1 e2; rw [e1, e2]; exact ⟨rfl, rfl⟩)
    rw [ev_den hS x hk.1, ev_den hS y hk.2]
    exact bin_sound hτ h
  case unOp op t x =>
    unfold unVC at h
    split at h
    · rename_i b hb
      have hc := ev_den hS x (by rw [hb]; rfl)
      rw [hb] at hc
      rw [hc]
      exact .of (.bool (!b)) trivial h fun w _ => by simp [SV.den, Op.unary]
    · rename_i z hb
      have hc := ev_den hS x (by rw [hb]; rfl)
      rw [hb] at hc
      rw [hc]
      exact ar_sound h fun w => by simp [SV.den, Op.unary, Op.intArith]
    · exact h.elim
  case convert s t x =>
    have hk : (ev S x).known = true := by
      unfold convVC at h
      split at h <;> first | exact h.elim | (rename_i e1; rw [e1]; rfl)
    rw [ev_den hS x hk]
    exact conv_sound hτ h
  case extract x i =>
    have hk : (ev S x).known = true := knownOf fun e => by rw [e] at h; exact h
    rw [ev_den hS x hk]
    exact extract_sound (ev_wf hwS x) h
  case makeFunc fn first caps =>
    unfold makeFuncVC at h
    split at h
    · rename_i f
      obtain ⟨rfl, hk, h⟩ := h
      have hk' : ∀ x ∈ caps.toList, (ev S x).known = true := fun x hx => by
        have := List.all_eq_true.1 hk (ev S x) (List.mem_map.2 ⟨x, hx, rfl⟩)
        exact this
      have hm := map_eval hS hk'
      refine .of (.fn f (caps.toList.map (ev S))) ?_ h fun w _ => ?_
      · simp only [SV.wf, wfL_iff]
        intro v hv
        obtain ⟨x, _, rfl⟩ := List.mem_map.1 hv
        exact ev_wf hwS x
      · have : caps.map a.eval = ((caps.toList.map (ev S)).map (SV.den B)).toArray := by
          rw [← hm]; apply Array.ext'; simp
        simp only [Instr.makeFunc, SV.den, denL_map]
        simp [this]
    · exact h.elim
  case fieldAddr t x f =>
    have hk : (ev S x).known = true := knownOf fun e => by rw [e] at h; unfold fieldAddrVC at h; split at h <;> first | exact h | (rename_i e; cases e)
    rw [ev_den hS x hk]
    exact fieldAddr_sound hτ (ev_wf hwS x) h
  case field t x f =>
    have hk : (ev S x).known = true := knownOf fun e => by rw [e] at h; unfold fieldVC at h; split at h <;> first | exact h | (rename_i e; cases e)
    rw [ev_den hS x hk]
    exact field_sound hτ (ev_wf hwS x) h
  case nilCheck x =>
    have hk : (ev S x).known = true := knownOf fun e => by rw [e] at h; exact h
    rw [ev_den hS x hk]
    unfold nilCheckVC at h
    split at h
    · rename_i b off he
      have hw := ev_wf hwS x
      rw [he] at hw
      rw [he]; exact .of (.ptr b off) hw h fun w _ => rfl
    · exact h.elim
  case indexAddr t x i =>
    have hk : (ev S x).known = true ∧ (ev S i).known = true := by
      unfold indexAddrVC at h
      split at h <;> first | exact h.elim | (rename_i e1 e2 e3; rw [e2, e3]; exact ⟨rfl, rfl⟩)
    rw [ev_den hS x hk.1, ev_den hS i hk.2]
    exact indexAddr_sound hτ (ev_wf hwS x) h
  case index t x i =>
    have hk : (ev S x).known = true ∧ (ev S i).known = true := by
      unfold indexVC at h
      split at h <;> first | exact h.elim | (rename_i e1 e2 e3; rw [e2, e3]; exact ⟨rfl, rfl⟩)
    rw [ev_den hS x hk.1, ev_den hS i hk.2]
    exact index_sound hτ h
  case lookup t x i ok =>
    have hk : (ev S x).known = true ∧ (ev S i).known = true := by
      unfold lookupVC at h
      split at h <;> first | exact h.elim | (rename_i e1 e2 e3; rw [e2, e3]; exact ⟨rfl, rfl⟩)
    rw [ev_den hS x hk.1, ev_den hS i hk.2]
    exact lookup_sound hτ h
  case slice t x lo hi mx =>
    obtain ⟨hm, h⟩ := h
    have hmx : mx = none := by cases mx <;> simp_all
    subst hmx
    have hk : (ev S x).known = true := knownOf fun e => by rw [e] at h; unfold sliceVC at h; split at h <;> first | exact h | (rename_i e; cases e)
    have hb : ∀ (o : Option Operand) d hh κ', bndVC (o.map (ev S)) d hh κ' → o.map a.eval = (o.map (ev S)).map (SV.den B) := by
      intro o d hh κ' h'
      cases o with
      | none => rfl
      | some y =>
        have hy : (ev S y).known = true := knownOf fun e => by
          unfold bndVC at h'
          simp only [Option.map_some, e] at h'
        simp [ev_den hS y hy]
    have hb2 : hi.map a.eval = (hi.map (ev S)).map (SV.den B) ∧ lo.map a.eval = (lo.map (ev S)).map (SV.den B) := by
      unfold sliceVC at h
      split at h
      · have h2 := h.2; obtain ⟨l, h3, _⟩ := bnd_sound (B := B) h2; exact ⟨hb _ _ _ _ h2, hb _ _ _ _ h3⟩
      · have h2 := h.2; obtain ⟨l, h3, _⟩ := bnd_sound (B := B) h2; exact ⟨hb _ _ _ _ h2, hb _ _ _ _ h3⟩
      · have h2 := h.2; obtain ⟨l, h3, _⟩ := bnd_sound (B := B) h2; exact ⟨hb _ _ _ _ h2, hb _ _ _ _ h3⟩
      · exact h.elim
    rw [ev_den hS x hk, hb2.1, hb2.2]
    exact slice_sound hτ (ev_wf hwS x) h
  case build t parts =>
    have hk : ∀ q ∈ (parts.toList.map fun p => (p.1, ev S p.2)), q.2.known = true := by
      unfold buildVC at h
      split at h
      · have h := h.2
        split at h
        · rename_i hL; exact fillI_known _ _ _ hL
        · exact h.elim
      · have h := h.2
        split at h
        · rename_i hL; exact fillI_known _ _ _ hL
        · exact h.elim
      · have h := h.2.2.2
        split at h
        · rename_i hL; exact fillT_known _ _ _ hL
        · exact h.elim
      · exact h.elim
    have he : (parts.map fun (x : Nat × Operand) => (x.1, a.eval x.2)) = ((parts.toList.map fun p => (p.1, ev S p.2)).map fun p => (p.1, p.2.den B)).toArray := by
      apply Array.ext'
      simp only [Array.toList_map, List.map_map]
      refine List.map_congr_left fun q hq => ?_
      have := hk (q.1, ev S q.2) (List.mem_map.2 ⟨q, hq, rfl⟩)
      simp [ev_den hS q.2 this]
    have := build_sound (P := P) (B := B) hτ (fun q hq => by obtain ⟨r, _, rfl⟩ := List.mem_map.1 hq; exact ev_wf hwS r.2) h
    rw [← he] at this
    exact this
  case call c =>
    split at h
    · rename_i b hb
      obtain ⟨hk, h⟩ := h
      have hk' : ∀ x ∈ c.args.toList, (ev S x).known = true := fun x hx => List.all_eq_true.1 hk (ev S x) (List.mem_map.2 ⟨x, hx, rfl⟩)
      have hm : c.args.map a.eval = ((c.args.toList.map (ev S)).map (SV.den B)).toArray := by
        rw [← map_eval hS hk']; apply Array.ext'; simp
      generalize c.args.toList.map (ev S) = vs at h hm
      simp only [resolve, hb]
      unfold builtinVC at h
      split at h
      · split at h
        · rename_i t x ht
          obtain ⟨v, xx, h1, h2, h3, h4⟩ := len_sound (P := P) (B := B) hτ h c.argTypes o.type ht
          refine ⟨v, xx, h1, h2, h3, fun w hw => ?_⟩
          have h5 := h4 w hw
          simp only [Sem.run_bind] at h5
          simp [hm, invoke, builtin]
          exact h5
        · exact h.elim
      · unfold mmVC at h
        split at h
        · rename_i x y
          refine .of (.int _) trivial h fun w _ => ?_
          simp only [List.map_cons, List.map_nil, SV.den] at hm
          have h1 := run_min_int2 (P := P) w c.argTypes o.type .i64 .i64 x y
          simp [hm, invoke, builtin, h1, SV.den]
          omega
        · exact h.elim
      · unfold mmVC at h
        split at h
        · rename_i x y
          refine .of (.int _) trivial h fun w _ => ?_
          simp only [List.map_cons, List.map_nil, SV.den] at hm
          have h1 := run_max_int2 (P := P) w c.argTypes o.type .i64 .i64 x y
          simp [hm, invoke, builtin, h1, SV.den]
          omega
        · exact h.elim
      · exact h.elim
    · exact h.elim

end
end Go.Proofs.Ytnlbljikbonioaa
