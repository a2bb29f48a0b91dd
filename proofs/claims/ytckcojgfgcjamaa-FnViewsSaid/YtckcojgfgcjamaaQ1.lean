/- Texts of this claim, joined (Eng, EngP, EngC). -/
import Derived.Test.YtckcojgfgcjamaaProg
import Derived.WalkKit
import Derived.Deep.Quiet
import Derived.Laws.StructEq
import Derived.WideKeyRuns
set_option maxRecDepth 100000
set_option linter.unusedSimpArgs false
set_option linter.unusedVariables false
namespace Go.Proofs.Ytckcojgfgcjamaa
open Go Go.RowKit

/-- A symbolic value: blocks by name. -/
inductive SV where
  | non | und | int (x : Int) | bool (b : Bool) | arr (L : List Int) | barr (L : List Bool) | lit (v : Value)
  | ptr (b off : Nat) | slice (b off len cap : Nat) | nils | fn (f : Nat) (caps : List SV) | tup (l : List SV) | mp (b : Nat) | stc (l : List SV)
  deriving Inhabited

def ints (L : List Int) : Array Value := (L.map (Value.int .i64)).toArray
def bls (L : List Bool) : Array Value := (L.map Value.bool).toArray
@[simp] theorem size_ints (L : List Int) : (ints L).size = L.length := by simp [ints]
@[simp] theorem size_bls (L : List Bool) : (bls L).size = L.length := by simp [bls]
@[simp] theorem toList_ints (L : List Int) : (ints L).toList = L.map (Value.int .i64) := by simp [ints]
@[simp] theorem toList_bls (L : List Bool) : (bls L).toList = L.map Value.bool := by simp [bls]
@[simp] theorem get_ints (L : List Int) (k : Nat) : (ints L)[k]? = (L[k]?).map (Value.int .i64) := by simp [ints]
@[simp] theorem get_bls (L : List Bool) (k : Nat) : (bls L)[k]? = (L[k]?).map Value.bool := by simp [bls]

mutual
def SV.den (B : Nat → Nat) : SV → Value
  | .non => undef
  | .und => undef
  | .int x => .int .i64 x
  | .bool b => .bool b
  | .arr L => .agg (ints L)
  | .barr L => .agg (bls L)
  | .lit v => v
  | .ptr b o => .pointer (some ⟨B b, o, none⟩)
  | .slice b o l c => .slice (some ⟨B b, o, none⟩) l c
  | .nils => .slice none 0 0
  | .mp b => .map (some (B b))
  | .fn f caps => .func (.func f) #[] (denL B caps).toArray
  | .tup l => .tuple (denL B l).toArray
  | .stc l => .agg (denL B l).toArray
def denL (B : Nat → Nat) : List SV → List Value
  | [] => []
  | v :: r => v.den B :: denL B r
end

mutual
def SV.wf (n : Nat) : SV → Prop
  | .ptr b _ => b < n
  | .slice b _ _ _ => b < n
  | .mp b => b < n
  | .fn _ caps => wfL n caps
  | .tup l => wfL n l
  | .stc l => wfL n l
  | _ => True
def wfL (n : Nat) : List SV → Prop
  | [] => True
  | v :: r => v.wf n ∧ wfL n r
end

mutual
def SV.ren (r : Nat → Nat) : SV → SV
  | .ptr b o => .ptr (r b) o
  | .slice b o l c => .slice (r b) o l c
  | .mp b => .mp (r b)
  | .fn f caps => .fn f (renL r caps)
  | .tup l => .tup (renL r l)
  | .stc l => .stc (renL r l)
  | .non => .non
  | .und => .und
  | .int x => .int x
  | .bool b => .bool b
  | .arr L => .arr L
  | .barr L => .barr L
  | .lit v => .lit v
  | .nils => .nils
def renL (r : Nat → Nat) : List SV → List SV
  | [] => []
  | v :: l => v.ren r :: renL r l
end

def SV.known : SV → Bool
  | .non => false
  | _ => true

@[simp] theorem length_denL (B : Nat → Nat) : ∀ l, (denL B l).length = l.length
  | [] => by simp [denL]
  | v :: r => by simp [denL, length_denL B r]
theorem denL_map (B : Nat → Nat) : ∀ l, denL B l = l.map (SV.den B)
  | [] => by simp [denL]
  | v :: r => by simp [denL, denL_map B r]
theorem wfL_iff (n : Nat) : ∀ l, wfL n l ↔ ∀ v ∈ l, v.wf n
  | [] => by simp [wfL]
  | v :: r => by simp [wfL, wfL_iff n r]
mutual
theorem SV.den_congr {B B' : Nat → Nat} {n : Nat} (h : ∀ k, k < n → B' k = B k) : ∀ v : SV, v.wf n → v.den B' = v.den B
  | .non, _ => rfl
  | .und, _ => rfl
  | .int _, _ => rfl
  | .bool _, _ => rfl
  | .arr _, _ => rfl
  | .barr _, _ => rfl
  | .lit _, _ => rfl
  | .nils, _ => rfl
  | .ptr b o, hw => by simp only [SV.den]; rw [h b (by simpa [SV.wf] using hw)]
  | .slice b o l c, hw => by simp only [SV.den]; rw [h b (by simpa [SV.wf] using hw)]
  | .mp b, hw => by simp only [SV.den]; rw [h b (by simpa [SV.wf] using hw)]
  | .fn f caps, hw => by simp only [SV.den]; rw [denL_congr h caps (by simpa [SV.wf] using hw)]
  | .tup l, hw => by simp only [SV.den]; rw [denL_congr h l (by simpa [SV.wf] using hw)]
  | .stc l, hw => by simp only [SV.den]; rw [denL_congr h l (by simpa [SV.wf] using hw)]
theorem denL_congr {B B' : Nat → Nat} {n : Nat} (h : ∀ k, k < n → B' k = B k) : ∀ l : List SV, wfL n l → denL B' l = denL B l
  | [], _ => rfl
  | v :: r, hw => by
    simp only [wfL] at hw
    simp only [denL]
    rw [SV.den_congr h v hw.1, denL_congr h r hw.2]
end

mutual
theorem SV.den_ren (B : Nat → Nat) (r : Nat → Nat) : ∀ v : SV, (v.ren r).den B = v.den (fun k => B (r k))
  | .non => rfl
  | .und => rfl
  | .int _ => rfl
  | .bool _ => rfl
  | .arr _ => rfl
  | .barr _ => rfl
  | .lit _ => rfl
  | .nils => rfl
  | .ptr b o => rfl
  | .slice b o l c => rfl
  | .mp b => rfl
  | .fn f caps => by simp only [SV.ren, SV.den]; rw [denL_ren B r caps]
  | .tup l => by simp only [SV.ren, SV.den]; rw [denL_ren B r l]
  | .stc l => by simp only [SV.ren, SV.den]; rw [denL_ren B r l]
theorem denL_ren (B : Nat → Nat) (r : Nat → Nat) : ∀ l : List SV, denL B (renL r l) = denL (fun k => B (r k)) l
  | [] => rfl
  | v :: l => by simp only [renL, denL]; rw [SV.den_ren B r v, denL_ren B r l]
end

mutual
theorem SV.wf_mono {n n' : Nat} (h : n ≤ n') : ∀ v : SV, v.wf n → v.wf n'
  | .non, _ => trivial
  | .und, _ => trivial
  | .int _, _ => trivial
  | .bool _, _ => trivial
  | .arr _, _ => trivial
  | .barr _, _ => trivial
  | .lit _, _ => trivial
  | .nils, _ => trivial
  | .ptr b o, hw => by simp only [SV.wf] at *; omega
  | .slice b o l c, hw => by simp only [SV.wf] at *; omega
  | .mp b, hw => by simp only [SV.wf] at *; omega
  | .fn f caps, hw => by simp only [SV.wf] at *; exact wfL_mono h caps hw
  | .tup l, hw => by simp only [SV.wf] at *; exact wfL_mono h l hw
  | .stc l, hw => by simp only [SV.wf] at *; exact wfL_mono h l hw
theorem wfL_mono {n n' : Nat} (h : n ≤ n') : ∀ l : List SV, wfL n l → wfL n' l
  | [], _ => trivial
  | v :: r, hw => by simp only [wfL] at *; exact ⟨SV.wf_mono h v hw.1, wfL_mono h r hw.2⟩
end

mutual
theorem SV.ren_id : ∀ v : SV, v.ren (fun k => k) = v
  | .non => rfl
  | .und => rfl
  | .int _ => rfl
  | .bool _ => rfl
  | .arr _ => rfl
  | .barr _ => rfl
  | .lit _ => rfl
  | .nils => rfl
  | .ptr b o => rfl
  | .slice b o l c => rfl
  | .mp b => rfl
  | .fn f caps => by simp only [SV.ren]; rw [renL_id caps]
  | .tup l => by simp only [SV.ren]; rw [renL_id l]
  | .stc l => by simp only [SV.ren]; rw [renL_id l]
theorem renL_id : ∀ l : List SV, renL (fun k => k) l = l
  | [] => rfl
  | v :: l => by simp only [renL]; rw [SV.ren_id v, renL_id l]
end

/-- A map's value: an int, or a Bool told by 1. -/
def mvS : Bool → Int → SV
  | true, v => .bool (decide (v = 1))
  | false, v => .int v
/-- A map's entries, none of which was ever taken out. -/
def mpE (bv : Bool) : List (List Int × Int) → Nat → List MapEntry
  | [], _ => []
  | (k, v) :: r, i => ⟨.agg (ints k), (mvS bv v).den (fun _ => 0), i⟩ :: mpE bv r (i + 1)

/-- A block. -/
inductive SObj where
  | ints (L : List Int) (e : Nat) | bls (L : List Bool) (e : Nat) | cells (l : List SV) (e : Nat) | dead
  | hole (n e : Nat) | win (o : Nat) (L : List Int) | winU (o : Nat) (L : List Int) | mp (bv : Bool) (l : List (List Int × Int))
  deriving Inhabited

def SObj.live : SObj → Bool
  | .dead => false
  | _ => true
def SObj.den (B : Nat → Nat) : SObj → Obj
  | .ints L e => .cells (Go.Proofs.Ytckcojgfgcjamaa.ints L) e (0, 0)
  | .bls L e => .cells (Go.Proofs.Ytckcojgfgcjamaa.bls L) e (0, 0)
  | .cells l e => .cells (denL B l).toArray e (0, 0)
  | .dead => .cells #[] 0 (0, 0)
  | .hole _ _ => .cells #[] 0 (0, 0)
  | .win _ _ => .cells #[] 0 (0, 0)
  | .winU _ _ => .cells #[] 0 (0, 0)
  | .mp bv l => .map (mpE bv l 0).toArray l.length
def SObj.wf (n : Nat) : SObj → Prop
  | .cells l _ => wfL n l
  | _ => True
def SObj.ren (r : Nat → Nat) : SObj → SObj
  | .cells l e => .cells (renL r l) e
  | o => o
theorem SObj.den_ren (B : Nat → Nat) (r : Nat → Nat) (o : SObj) : (o.ren r).den B = o.den (fun k => B (r k)) := by
  cases o <;> simp [SObj.ren, SObj.den, denL_ren]
theorem SObj.live_ren (r : Nat → Nat) (o : SObj) : (o.ren r).live = o.live := by cases o <;> rfl
theorem SObj.den_congr {B B' : Nat → Nat} {n : Nat} (h : ∀ k, k < n → B' k = B k) (o : SObj) (hw : o.wf n) : o.den B' = o.den B := by
  cases o <;> simp only [SObj.den]
  rw [denL_congr h _ hw]
theorem SObj.wf_mono {n n' : Nat} (h : n ≤ n') (o : SObj) (hw : o.wf n) : o.wf n' := by
  cases o <;> simp only [SObj.wf] at *
  exact wfL_mono h _ hw
theorem SObj.ren_id (o : SObj) : o.ren (fun k => k) = o := by cases o <;> simp [SObj.ren, renL_id]

abbrev Heap := List (Nat × SObj)
abbrev Env := List (Nat × SV)
def hget (H : Heap) (k : Nat) : Option SObj := H.lookup k
def sget (S : Env) (t : Nat) : SV := (S.lookup t).getD .non

/-- Is the block's whole content known? -/
def SObj.full : SObj → Bool
  | .hole _ _ => false
  | .win _ _ => false
  | .winU _ _ => false
  | _ => true
/-- What is known of a block: all of it, its shape alone (a hole), or some of its cells (a window). -/
def SObj.sat (B : Nat → Nat) (w : World) (id : Nat) : SObj → Prop
  | .hole n e => ∃ c : Array Value, w.heap[id]? = some (.cells c e (0, 0)) ∧ c.size = n
  | .win o L => ∃ (c : Array Value) (e : TypeId) (fz : Nat × Nat), w.heap[id]? = some (.cells c e fz) ∧ ∀ i, i < L.length → c[o + i]? = some (.int .i64 (L.getD i 0))
  | .winU o L => ∃ (c : Array Value) (e : TypeId) (fz : Nat × Nat), w.heap[id]? = some (.cells c e fz) ∧ ∀ i, i < L.length → c[o + i]? = some (.int .u8 (L.getD i 0))
  | o => w.heap[id]? = some (o.den B)
theorem SObj.sat_heap {B : Nat → Nat} {w w' : World} {id id' : Nat} {o : SObj} (he : w'.heap[id']? = w.heap[id]?) (h : o.sat B w id) : o.sat B w' id' := by
  cases o <;> simp only [SObj.sat, he] at * <;> exact h
theorem SObj.sat_of_den {B : Nat → Nat} {w : World} {id : Nat} {o : SObj} (hf : o.full = true) (h : w.heap[id]? = some (o.den B)) : o.sat B w id := by
  cases o <;> first | exact h | (cases hf)
theorem SObj.sat_lt {B : Nat → Nat} {w : World} {id : Nat} {o : SObj} (h : o.sat B w id) : id < w.heap.size := by
  cases o <;> simp only [SObj.sat] at h
  case hole n e => obtain ⟨c, h, _⟩ := h; exact (Array.getElem?_eq_some_iff.1 h).1
  case win o L => obtain ⟨c, e, fz, h, _⟩ := h; exact (Array.getElem?_eq_some_iff.1 h).1
  case winU o L => obtain ⟨c, e, fz, h, _⟩ := h; exact (Array.getElem?_eq_some_iff.1 h).1
  all_goals exact (Array.getElem?_eq_some_iff.1 h).1
theorem SObj.sat_congr {B B' : Nat → Nat} {n : Nat} (h : ∀ k, k < n → B' k = B k) {w : World} {id : Nat} (o : SObj) (hw : o.wf n) (hs : o.sat B w id) : o.sat B' w id := by
  have hd := SObj.den_congr h o hw
  cases o <;> simp only [SObj.sat] at * <;> first | exact hs | (rw [hd]; exact hs)
theorem SObj.sat_ren {B : Nat → Nat} {ρ : Nat → Nat} {w : World} {id : Nat} {o : SObj} : (o.ren ρ).sat B w id = o.sat (fun k => B (ρ k)) w id := by
  cases o <;> simp [SObj.sat, SObj.ren, SObj.den, denL_ren]
structure HR (B : Nat → Nat) (H : Heap) (w : World) : Prop where
  at_ : ∀ k o, hget H k = some o → o.live = true → o.sat B w (B k)
  inj : ∀ k j o o', hget H k = some o → o.live = true → hget H j = some o' → o'.live = true → B k = B j → k = j

def hwf (n : Nat) (H : Heap) : Prop := ∀ k o, hget H k = some o → k < n ∧ o.wf n
def swf (n : Nat) (S : Env) : Prop := ∀ t v, S.lookup t = some v → v.wf n

structure SR (B : Nat → Nat) (N : Nat) (S : Env) (a : Act) : Prop where
  size : a.tmps.size = N
  df : a.defers = []
  at_ : ∀ t v, S.lookup t = some v → v.known = true → a.tmps[t]? = some (v.den B)

theorem sget_wf {n : Nat} {S : Env} (h : swf n S) (t : Nat) : (sget S t).wf n := by
  unfold sget
  cases hq : S.lookup t with
  | none => simp [SV.wf]
  | some v => simpa using h t v hq

/-- All cells are int64. -/
def allI : List Value → Option (List Int)
  | [] => some []
  | .int .i64 x :: r => (allI r).map (x :: ·)
  | _ :: _ => none
theorem allI_spec : ∀ (l : List Value) (L : List Int), allI l = some L → l = L.map (Value.int .i64)
  | [], L, h => by simp [allI] at h; subst h; rfl
  | v :: r, L, h => by
    unfold allI at h
    split at h
    · rename_i h0; cases h0
    · rename_i x r' h0
      cases h0
      cases hq : allI r with
      | none => simp [hq] at h
      | some M => simp [hq] at h; subst h; simp [allI_spec r M hq]
    · cases h

def constSV : Value → SV
  | .int .i64 x => .int x
  | .bool b => .bool b
  | .slice none 0 0 => .nils
  | .agg cs => match allI cs.toList with
    | some L => .arr L
    | none => .lit (.agg cs)
  | v => .lit v
theorem den_constSV (B : Nat → Nat) (v : Value) : (constSV v).den B = v := by
  unfold constSV
  split
  · rfl
  · rfl
  · rfl
  · rename_i cs
    split
    · rename_i L h
      simp only [SV.den, ints]
      rw [← allI_spec _ _ h]
    · rfl
  · rfl
theorem wf_constSV (n : Nat) (v : Value) : (constSV v).wf n := by
  unfold constSV
  split <;> (try trivial)
  split <;> trivial
def ev (S : Env) : Operand → SV
  | .tmp t => sget S t
  | .const v => constSV v
  | .global _ => .non
  | .func f => .fn f []
theorem ev_den {B : Nat → Nat} {N : Nat} {S : Env} {a : Act} (h : SR B N S a) (x : Operand) (hk : (ev S x).known = true) : a.eval x = (ev S x).den B := by
  cases x with
  | tmp t =>
    simp only [ev, sget] at *
    cases hq : S.lookup t with
    | none => simp [hq, SV.known] at hk
    | some v =>
      simp [hq] at hk ⊢
      have := h.at_ t v hq hk
      simp [Act.eval, this]
  | const v => simp [ev, Act.eval, den_constSV]
  | global g => simp [ev, SV.known] at hk
  | func f => simp [ev, Act.eval, SV.den, denL]
theorem ev_wf {n : Nat} {S : Env} (h : swf n S) (x : Operand) : (ev S x).wf n := by
  cases x with
  | tmp t => exact sget_wf h t
  | const v => exact wf_constSV n v
  | global g => trivial
  | func f => simp [ev, SV.wf, wfL]

def sput (S : Env) (d : Option Tmp) (v : SV) : Env := match d with
  | some t => (t, v) :: S
  | none => S

theorem SR.put {B : Nat → Nat} {N : Nat} {S : Env} {a : Act} (h : SR B N S a) (d : Option Tmp) (v : SV) (x : Value) (hd : ∀ t, d = some t → t < N) (hx : v.known = true → x = v.den B) : SR B N (sput S d v) (a.put d x) := by
  cases d with
  | none => exact h
  | some t =>
    refine ⟨by simp [Act.put, h.size], by simp [Act.put, h.df], ?_⟩
    intro t' v' hl hk
    simp only [sput, List.lookup_cons] at hl
    by_cases ht : t' = t
    · subst ht
      simp at hl
      subst hl
      simp only [Act.put, Array.getElem?_setIfInBounds_self, h.size, hd t' rfl, if_true]
      rw [hx hk]
    · have : (t' == t) = false := by simpa using ht
      rw [this] at hl
      simp only [Act.put]
      rw [Array.getElem?_setIfInBounds_ne (Ne.symm ht)]
      exact h.at_ t' v' hl hk
theorem swf_put {n : Nat} {S : Env} (h : swf n S) (d : Option Tmp) {v : SV} (hv : v.wf n) : swf n (sput S d v) := by
  cases d with
  | none => exact h
  | some t =>
    intro t' v' hl
    simp only [sput, List.lookup_cons] at hl
    by_cases ht : t' = t
    · subst ht; simp at hl; subst hl; exact hv
    · have : (t' == t) = false := by simpa using ht
      rw [this] at hl
      exact h t' v' hl
theorem swf_mono {n n' : Nat} (h : n ≤ n') {S : Env} (hs : swf n S) : swf n' S := fun t v hl => SV.wf_mono h v (hs t v hl)
theorem hwf_mono {n n' : Nat} (h : n ≤ n') {H : Heap} (hs : hwf n H) : hwf n' H := fun t v hl => ⟨Nat.lt_of_lt_of_le (hs t v hl).1 h, SObj.wf_mono h v (hs t v hl).2⟩
theorem SR.congr {B B' : Nat → Nat} {N n : Nat} {S : Env} {a : Act} (h : SR B N S a) (hw : swf n S) (hb : ∀ k, k < n → B' k = B k) : SR B' N S a :=
  ⟨h.size, h.df, fun t v hl hk => by rw [SV.den_congr hb v (hw t v hl)]; exact h.at_ t v hl hk⟩
theorem HR.congr {B B' : Nat → Nat} {n : Nat} {H : Heap} {w : World} (h : HR B H w) (hw : hwf n H) (hb : ∀ k, k < n → B' k = B k) : HR B' H w :=
  ⟨fun k o hl hk => by rw [hb k (hw k o hl).1]; exact SObj.sat_congr hb o (hw k o hl).2 (h.at_ k o hl hk),
   fun k j o o' h1 h2 h3 h4 he => h.inj k j o o' h1 h2 h3 h4 (by rw [← hb k (hw k o h1).1, ← hb j (hw j o' h3).1]; exact he)⟩

end Go.Proofs.Ytckcojgfgcjamaa
set_option maxRecDepth 100000
set_option linter.unusedSimpArgs false
set_option linter.unusedVariables false
namespace Go.Proofs.Ytckcojgfgcjamaa
open Go Go.RowKit

inductive Kd where
  | int | bool | arr (n e : Nat) | str (fs : List (Nat × Nat)) | sl (e : Nat) | mp (k e : Nat) | num (k : IntKind) | sca | other
structure TyD where
  k : Kd
  size : Nat
  bytes : Nat
  z : SV
def Kd.isAgg : Kd → Bool
  | .arr _ _ => true
  | .str _ => true
  | _ => false
def Kd.isSca : Kd → Bool
  | .int => true
  | .bool => true
  | .sl _ => true
  | .mp _ _ => true
  | .num _ => true
  | .sca => true
  | _ => false
def tdAgg : TypeDesc → Bool
  | .struct _ => true
  | .array _ _ => true
  | _ => false
def KdOK (P : Program) (t : TypeId) : Kd → Prop
  | .int => P.underlying t = some (.int .i64)
  | .bool => P.underlying t = some .bool
  | .arr n e => P.underlying t = some (.array n e)
  | .str fs => ∃ F : Array Field, P.underlying t = some (.struct F) ∧ F.toList.map (fun f => (f.offset, f.type)) = fs
  | .sl e => P.underlying t = some (.slice e)
  | .mp k e => P.underlying t = some (.map k e)
  | .num k => P.underlying t = some (.int k)
  | .sca => ∃ d, P.underlying t = some d ∧ tdAgg d = false
  | .other => True
structure TyOK (P : Program) (t : TypeId) (d : TyD) : Prop where
  kd : KdOK P t d.k
  info : d.k ≠ .other → ∃ i, P.info? t = some i ∧ i.size = d.size ∧ i.bytes = d.bytes ∧ (d.z.known = true → i.zero = some (d.z.den fun _ => 0))
abbrev Tys := Nat → TyD
def TysOK (P : Program) (τ : Tys) : Prop := ∀ t, TyOK P t (τ t)

theorem tyOK_mk {P : Program} {t : TypeId} {d : TyD} (hk : KdOK P t d.k) (hi : (P.info? t).map (fun i => (i.size, i.bytes, i.zero)) = some (d.size, d.bytes, if d.z.known then some (d.z.den fun _ => 0) else none) ∨ (d.z.known = false ∧ (P.info? t).map (fun i => (i.size, i.bytes)) = some (d.size, d.bytes))) : TyOK P t d := by
  refine ⟨hk, fun _ => ?_⟩
  cases hq : P.info? t with
  | none => simp [hq] at hi
  | some i =>
    rcases hi with hi | ⟨h0, hi⟩
    · simp [hq] at hi
      exact ⟨i, rfl, hi.1, hi.2.1, fun hz => by rw [hi.2.2]; simp [hz]⟩
    · simp [hq] at hi
      exact ⟨i, rfl, hi.1, hi.2, fun hz => by rw [h0] at hz; cases hz⟩

abbrev K1 := SV → Heap → Nat → Prop

def In64 (x : Int) : Prop := -9223372036854775808 ≤ x ∧ x ≤ 9223372036854775807
theorem wrap_in {x : Int} (h : In64 x) : IntKind.i64.wrap x = x := IntWalk.i64_in x h
/-- An int64 sum: either it fits (nw), or it is wrapped. -/
def arVC (nw : Bool) (x : Int) (H : Heap) (n : Nat) (κ : K1) : Prop := match nw with
  | true => In64 x ∧ κ (.int x) H n
  | false => κ (.int (IntKind.i64.wrap x)) H n
def intVC (nw mw : Bool) (op : BinOp) (a b : Int) (H : Heap) (n : Nat) (κ : K1) : Prop := match op with
  | .add => arVC nw (a + b) H n κ
  | .sub => arVC nw (a - b) H n κ
  | .mul => arVC mw (a * b) H n κ
  | .quo => b ≠ 0 ∧ arVC mw (a.tdiv b) H n κ
  | .rem => b ≠ 0 ∧ κ (.int (a.tmod b)) H n
  | .eql => κ (.bool (decide (a = b))) H n
  | .neq => κ (.bool (!decide (a = b))) H n
  | .lss => κ (.bool (decide (a < b))) H n
  | .leq => κ (.bool (decide (a ≤ b))) H n
  | .gtr => κ (.bool (decide (b < a))) H n
  | .geq => κ (.bool (decide (b ≤ a))) H n
  | _ => False
/-- A type whose cells are all int64: how '==' at it is carried out. -/
def EqI (P : Program) (t : TypeId) (size : Nat) : Prop := ∀ (L M : List Int), L.length = size → M.length = size → ∀ w : World,
  (∀ x y, (eqGuard .eql t x y (.agg (ints L)) (.agg (ints M))).run P w = .ok () w) ∧ (∀ x y, (eqGuard .neq t x y (.agg (ints L)) (.agg (ints M))).run P w = .ok () w) ∧
  (Op.equal t (.agg (ints L)) (.agg (ints M))).run P w = .ok (decide (L = M)) w
/-- Whole numbers of other kinds: what is worked out wraps. -/
def numVC (op : BinOp) (k k' : IntKind) (a b : Int) (H : Heap) (n : Nat) (κ : K1) : Prop := match op with
  | .add => k = k' ∧ κ (.lit (.int k (k.wrap (a + b)))) H n
  | .sub => k = k' ∧ κ (.lit (.int k (k.wrap (a - b)))) H n
  | .mul => k = k' ∧ κ (.lit (.int k (k.wrap (a * b)))) H n
  | .and => k = k' ∧ κ (.lit (.int k (k.wrap (BitVec.ofInt k.bits a &&& BitVec.ofInt k.bits b).toNat))) H n
  | .xor => k = k' ∧ κ (.lit (.int k (k.wrap (BitVec.ofInt k.bits a ^^^ BitVec.ofInt k.bits b).toNat))) H n
  | .shr => 0 ≤ b ∧ κ (.lit (.int k (a.fdiv (2 ^ (min b.toNat k.bits))))) H n
  | _ => False
def binVC (P : Program) (nw mw : Bool) (op : BinOp) (t : TypeId) (d : TyD) (x y : SV) (H : Heap) (n : Nat) (κ : K1) : Prop := match x, y with
  | .int a, .int b => intVC nw mw op a b H n κ
  | .lit (.int k a), .lit (.int k' b) => numVC op k k' a b H n κ
  | .lit (.int k a), .int b => numVC op k .i64 a b H n κ
  | .bool a, .bool b => d.k = .bool ∧ match op with
    | .eql => κ (.bool (a == b)) H n
    | .neq => κ (.bool (!(a == b))) H n
    | _ => False
  | .arr L, .arr M => EqI P t d.size ∧ L.length = d.size ∧ M.length = d.size ∧ match op with
    | .eql => κ (.bool (decide (L = M))) H n
    | .neq => κ (.bool (!decide (L = M))) H n
    | _ => False
  | _, _ => False
def unVC (nw : Bool) (op : UnOp) (x : SV) (H : Heap) (n : Nat) (κ : K1) : Prop := match op, x with
  | .not, .bool b => κ (.bool (!b)) H n
  | .neg, .int a => arVC nw (-a) H n κ
  | _, _ => False
/-- A whole number at another kind. -/
def convI (d : TyD) (x : Int) (H : Heap) (n : Nat) (κ : K1) : Prop := match d.k with
  | .int => In64 x ∧ κ (.int x) H n
  | .num k => κ (.lit (.int k (k.wrap x))) H n
  | _ => False
def convVC (s d : TyD) (v : SV) (H : Heap) (n : Nat) (κ : K1) : Prop := match v with
  | .int x => s.k.isSca = true ∧ convI d x H n κ
  | .lit (.int _ x) => s.k.isSca = true ∧ convI d x H n κ
  | _ => False
def pickVC (c a b : SV) (H : Heap) (n : Nat) (κ : K1) : Prop := match c with
  | .bool x => (x = true → κ a H n) ∧ (x = false → κ b H n)
  | _ => False
/-- Zeros of one cell that are no numbers. -/
def litOne : Value → Bool
  | .pointer none => true
  | .map none => true
  | .int _ _ => true
  | _ => false
theorem litOne_spec {v : Value} (h : litOne v = true) : v.cells = #[v] ∧ v.oneCell' = true := by
  unfold litOne at h
  split at h <;> first | (cases h; done) | exact ⟨rfl, rfl⟩
def oneCellS : SV → Bool
  | .int _ => true
  | .bool _ => true
  | .ptr _ _ => true
  | .slice _ _ _ _ => true
  | .nils => true
  | .fn _ _ => true
  | .mp _ => true
  | .lit v => litOne v
  | _ => false
def cellM (o : Option SV) (H : Heap) (n : Nat) (κ : K1) : Prop := match o with
  | some v => oneCellS v = true ∧ κ v H n
  | none => False
def loadB (d : TyD) (o : Option SObj) (off : Nat) (H : Heap) (n : Nat) (κ : K1) : Prop := match o with
  | some (.ints L _) => match d.k with
    | .int => off < L.length ∧ κ (.int (L.getD off 0)) H n
    | .arr _ _ => off + d.size ≤ L.length ∧ κ (.arr ((L.drop off).take d.size)) H n
    | .str _ => off + d.size ≤ L.length ∧ κ (.arr ((L.drop off).take d.size)) H n
    | _ => False
  | some (.bls L _) => match d.k with
    | .bool => off < L.length ∧ κ (.bool (L.getD off false)) H n
    | .arr _ _ => off + d.size ≤ L.length ∧ κ (.barr ((L.drop off).take d.size)) H n
    | _ => False
  | some (.cells l _) => match d.k with
    | .str _ => off + d.size ≤ l.length ∧ κ (.stc ((l.drop off).take d.size)) H n
    | _ => d.k.isSca = true ∧ cellM l[off]? H n κ
  | some (.win o L) => match d.k with
    | .int => o ≤ off ∧ off < o + L.length ∧ κ (.int (L.getD (off - o) 0)) H n
    | .arr _ _ => 0 < d.size ∧ o ≤ off ∧ off + d.size ≤ o + L.length ∧ κ (.arr ((L.drop (off - o)).take d.size)) H n
    | .str _ => 0 < d.size ∧ o ≤ off ∧ off + d.size ≤ o + L.length ∧ κ (.arr ((L.drop (off - o)).take d.size)) H n
    | _ => False
  | some (.winU o L) => match d.k with
    | .num .u8 => o ≤ off ∧ off < o + L.length ∧ κ (.lit (.int .u8 (L.getD (off - o) 0))) H n
    | _ => False
  | _ => False
def loadVC (d : TyD) (a : SV) (H : Heap) (n : Nat) (κ : K1) : Prop := match a with
  | .ptr b off => loadB d (hget H b) off H n κ
  | _ => False
def extractVC (v : SV) (i : Nat) (H : Heap) (n : Nat) (κ : K1) : Prop := match v with
  | .tup l => match l[i]? with
    | some x => κ x H n
    | none => False
  | _ => False
def makeFuncVC (fn : Fn) (first : Array Operand) (caps : List SV) (H : Heap) (n : Nat) (κ : K1) : Prop := match fn with
  | .func f => first = #[] ∧ caps.all SV.known = true ∧ κ (.fn f caps) H n
  | _ => False
def fieldAddrVC (τ : Tys) (d : TyD) (x : SV) (f : Nat) (H : Heap) (n : Nat) (κ : K1) : Prop := match d.k, x with
  | .str fs, .ptr b off => match fs[f]? with
    | some (o, ft) => (τ ft).k ≠ .other ∧ (τ ft).size ≠ 0 ∧ κ (.ptr b (off + o)) H n
    | none => False
  | _, _ => False
def partVC (de : TyD) (L : List Int) (off : Nat) (H : Heap) (n : Nat) (κ : K1) : Prop := match de.k with
  | .int => off < L.length ∧ κ (.int (L.getD off 0)) H n
  | .arr _ _ => κ (.arr ((L.drop off).take de.size)) H n
  | .str _ => κ (.arr ((L.drop off).take de.size)) H n
  | _ => False
def fieldVC (τ : Tys) (d : TyD) (x : SV) (f : Nat) (H : Heap) (n : Nat) (κ : K1) : Prop := match d.k, x with
  | .str fs, .arr L => match fs[f]? with
    | some (o, ft) => partVC (τ ft) L o H n κ
    | none => False
  | .str fs, .stc l => match fs[f]? with
    | some (o, ft) => (τ ft).k.isSca = true ∧ cellM l[o]? H n κ
    | none => False
  | _, _ => False
def nilCheckVC (x : SV) (H : Heap) (n : Nat) (κ : K1) : Prop := match x with
  | .ptr b off => κ (.ptr b off) H n
  | _ => False
def indexAddrVC (τ : Tys) (d : TyD) (x i : SV) (H : Heap) (n : Nat) (κ : K1) : Prop := match d.k, x, i with
  | .arr len e, .ptr b off, .int z => (τ e).k ≠ .other ∧ 0 ≤ z ∧ z < len ∧ κ (.ptr b (off + z.toNat * (τ e).size)) H n
  | .sl e, .slice b off len _, .int z => (τ e).k ≠ .other ∧ 0 ≤ z ∧ z < len ∧ κ (.ptr b (off + z.toNat * (τ e).size)) H n
  | _, _, _ => False
def indexVC (τ : Tys) (d : TyD) (x i : SV) (H : Heap) (n : Nat) (κ : K1) : Prop := match d.k, x, i with
  | .arr len e, .arr L, .int z => 0 ≤ z ∧ z < len ∧ partVC (τ e) L (z.toNat * (τ e).size) H n κ
  | _, _, _ => False
/-- The bounds of a slice expression. -/
def bndVC (o : Option SV) (dflt : Nat) (hi : Nat) (κ : Nat → Prop) : Prop := match o with
  | none => κ dflt
  | some (.int z) => 0 ≤ z ∧ z ≤ hi ∧ κ z.toNat
  | _ => False
def cutOff (m l off es : Nat) : Nat := if m = l then off else off + l * es
def sliceVC (τ : Tys) (d : TyD) (x : SV) (lo hi : Option SV) (H : Heap) (n : Nat) (κ : K1) : Prop := match d.k, x with
  | .arr len e, .ptr b off => (τ e).k ≠ .other ∧ bndVC hi len len fun h => bndVC lo 0 h fun l => κ (.slice b (cutOff len l off (τ e).size) (h - l) (len - l)) H n
  | .sl e, .slice b off len cap => (τ e).k ≠ .other ∧ bndVC hi len cap fun h => bndVC lo 0 h fun l => κ (.slice b (cutOff cap l off (τ e).size) (h - l) (cap - l)) H n
  | .sl e, .nils => (τ e).k ≠ .other ∧ bndVC hi 0 0 fun h => bndVC lo 0 h fun _ => κ .nils H n
  | _, _ => False
/-- Parts of a literal laid over its zero. -/
def fillI (pl : Nat → Option (Nat × Nat)) (cells : List Int) : List (Nat × SV) → Option (List Int)
  | [] => some cells
  | (i, v) :: rest => match pl i, v with
    | some (off, 1), .int x => if off < cells.length then fillI pl (cells.set off x) rest else none
    | some (off, s), .arr M => if M.length = s ∧ off + M.length ≤ cells.length then fillI pl (cells.take off ++ M ++ cells.drop (off + M.length)) rest else none
    | _, _ => none
/-- Names play no part in a zero. -/
def flat1 : SV → Bool
  | .int _ => true
  | .bool _ => true
  | .arr _ => true
  | .barr _ => true
  | .nils => true
  | .lit _ => true
  | _ => false
def litNil : Value → Bool
  | .nilFunc => true
  | _ => false
theorem litNil_eq {v : Value} (h : litNil v = true) : v = .nilFunc := by cases v <;> first | rfl | cases h
def flat : SV → Bool
  | .int _ => true
  | .bool _ => true
  | .arr _ => true
  | .barr _ => true
  | .nils => true
  | .stc l => l.all flat1
  | .lit v => litNil v
  | _ => false
/-- The same for a struct of several kinds: each part is one cell. -/
def fillT (pl : Nat → Option Nat) (cells : List SV) : List (Nat × SV) → Option (List SV)
  | [] => some cells
  | (i, v) :: rest => match pl i, oneCellS v with
    | some off, true => if off < cells.length then fillT pl (cells.set off v) rest else none
    | _, _ => none
def buildVC (τ : Tys) (d : TyD) (parts : List (Nat × SV)) (H : Heap) (n : Nat) (κ : K1) : Prop := match d.z, d.k with
  | .arr Z, .arr _ e => (τ e).k ≠ .other ∧ match fillI (fun i => some (i * (τ e).size, (τ e).size)) Z parts with
    | some L => κ (.arr L) H n
    | none => False
  | .arr Z, .str fs => (fs.all fun x => match (τ x.2).k with | .other => false | _ => true) = true ∧ match fillI (fun i => (fs[i]?).map fun x => (x.1, (τ x.2).size)) Z parts with
    | some L => κ (.arr L) H n
    | none => False
  | .stc Z, .str fs => Z.all flat1 = true ∧ (fs.all fun x => match (τ x.2).k with | .other => false | _ => true) = true ∧ (fs.all fun x => (τ x.2).size == 1) = true ∧ match fillT (fun i => (fs[i]?).map fun x => x.1) Z parts with
    | some L => κ (.stc L) H n
    | none => False
  | _, _ => False
def lenMB (o : Option SObj) (H : Heap) (n : Nat) (κ : K1) : Prop := match o with
  | some (.mp _ l) => κ (.int l.length) H n
  | _ => False
def lenVC (d : TyD) (x : SV) (H : Heap) (n : Nat) (κ : K1) : Prop := match d.k, x with
  | .sl _, .slice _ _ len _ => κ (.int len) H n
  | .sl _, .nils => κ (.int 0) H n
  | .arr len _, _ => κ (.int len) H n
  | .mp _ _, .mp b => lenMB (hget H b) H n κ
  | _, _ => False
/-- Keys of a type whose cells are all int64: such a key can be looked up. -/
def KeyI (P : Program) (t : TypeId) (size : Nat) : Prop := (match P.underlying t with | some (.array _ _) | some (.struct _) => true | _ => false) = true ∧ EqI P t size ∧
  ∀ L : List Int, L.length = size → ∀ (em : Bool) (w : World), (Instr.checkKey em 10000 t (.agg (ints L))).run P w = .ok () w
/-- What a map has at a key; where. -/
def mget (l : List (List Int × Int)) (K : List Int) : Int := match l with
  | [] => 0
  | (k, v) :: r => if K = k then v else mget r K
def mhas (l : List (List Int × Int)) (K : List Int) : Bool := match l with
  | [] => false
  | (k, _) :: r => if K = k then true else mhas r K
def mset (l : List (List Int × Int)) (K : List Int) (v : Int) : List (List Int × Int) := match l with
  | [] => [(K, v)]
  | (k, x) :: r => if K = k then (k, v) :: r else (k, x) :: mset r K v
def mz : Bool → SV
  | true => .bool false
  | false => .int 0
def lkRes (bv ok : Bool) (l : List (List Int × Int)) (K : List Int) : SV := match ok with
  | true => .tup [mvS bv (mget l K), .bool (mhas l K)]
  | false => mvS bv (mget l K)
def keysOK (l : List (List Int × Int)) (s : Nat) : Prop := ∀ q ∈ l, q.1.length = s
def lookupB (P : Program) (τ : Tys) (k e : Nat) (ok : Bool) (o : Option SObj) (K : List Int) (H : Heap) (n : Nat) (κ : K1) : Prop := match o with
  | some (.mp bv l) => KeyI P k K.length ∧ keysOK l K.length ∧ (τ e).k ≠ .other ∧ (τ e).z = mz bv ∧ κ (lkRes bv ok l K) H n
  | _ => False
def lookupVC (P : Program) (τ : Tys) (d : TyD) (x i : SV) (ok : Bool) (H : Heap) (n : Nat) (κ : K1) : Prop := match d.k, x, i with
  | .mp k e, .mp b, .arr K => lookupB P τ k e ok (hget H b) K H n κ
  | _, _, _ => False
def mmVC (mx : Bool) (args : List SV) (H : Heap) (n : Nat) (κ : K1) : Prop := match args with
  | [.int x, .int y] => κ (.int (if mx then max x y else min x y)) H n
  | _ => False
def builtinVC (τ : Tys) (b : Builtin) (ts : Array TypeId) (args : List SV) (H : Heap) (n : Nat) (κ : K1) : Prop := match b with
  | .len => match ts[0]?, args with
    | some t, [x] => lenVC (τ t) x H n κ
    | _, _ => False
  | .min => mmVC false args H n κ
  | .max => mmVC true args H n κ
  | _ => False
/-- The operations that only read. -/
def pureVC (P : Program) (τ : Tys) (nw mw : Bool) (op : Op) (S : Env) (H : Heap) (n : Nat) (κ : K1) : Prop := match op with
  | .move x => κ (ev S x) H n
  | .assign x => κ (ev S x) H n
  | .pick c a b => pickVC (ev S c) (ev S a) (ev S b) H n κ
  | .load t a => loadVC (τ t) (ev S a) H n κ
  | .binOp op t x y _ => binVC P nw mw op t (τ t) (ev S x) (ev S y) H n κ
  | .unOp op _ x => unVC nw op (ev S x) H n κ
  | .convert s t x => convVC (τ s) (τ t) (ev S x) H n κ
  | .extract x i => extractVC (ev S x) i H n κ
  | .makeFunc fn first caps => makeFuncVC fn first (caps.toList.map (ev S)) H n κ
  | .fieldAddr t x f => fieldAddrVC τ (τ t) (ev S x) f H n κ
  | .nilCheck x => nilCheckVC (ev S x) H n κ
  | .field t x f => fieldVC τ (τ t) (ev S x) f H n κ
  | .indexAddr t x i => indexAddrVC τ (τ t) (ev S x) (ev S i) H n κ
  | .index t x i => indexVC τ (τ t) (ev S x) (ev S i) H n κ
  | .lookup t x i ok => lookupVC P τ (τ t) (ev S x) (ev S i) ok H n κ
  | .slice t x lo hi mx => mx.isNone = true ∧ sliceVC τ (τ t) (ev S x) (lo.map (ev S)) (hi.map (ev S)) H n κ
  | .build t parts => buildVC τ (τ t) (parts.toList.map fun p => (p.1, ev S p.2)) H n κ
  | .call c => match c.callee with
    | .builtin b => (c.args.toList.map (ev S)).all SV.known = true ∧ builtinVC τ b c.argTypes (c.args.toList.map (ev S)) H n κ
    | _ => False
  | _ => False

/-- What a reading operation comes to. -/
def PureRes (P : Program) (B : Nat → Nat) (H : Heap) (n : Nat) (s : Sem Next) (κ : K1) : Prop :=
  ∃ v x, SV.wf n v ∧ (v.known = true → x = v.den B) ∧ κ v H n ∧ ∀ w, HR B H w → s.run P w = .ok (.value x) w

section
variable {P : Program} {τ : Tys} {B : Nat → Nat} {H : Heap} {n : Nat} {κ : K1}

theorem run_info {t : TypeId} (hτ : TysOK P τ) (hk : (τ t).k ≠ .other) (w : World) : (sizeOf t).run P w = .ok (τ t).size w := by
  obtain ⟨i, hi, hs, _⟩ := (hτ t).info hk
  simp [sizeOf, typeInfo, hi, hs]
theorem und_int {t : TypeId} (hτ : TysOK P τ) (h : (τ t).k = .int) : P.underlying t = some (.int .i64) := by have := (hτ t).kd; rw [h] at this; exact this
theorem und_bool {t : TypeId} (hτ : TysOK P τ) (h : (τ t).k = .bool) : P.underlying t = some .bool := by have := (hτ t).kd; rw [h] at this; exact this
theorem und_arr {t : TypeId} {k e : Nat} (hτ : TysOK P τ) (h : (τ t).k = .arr k e) : P.underlying t = some (.array k e) := by have := (hτ t).kd; rw [h] at this; exact this
theorem und_sl {t : TypeId} {e : Nat} (hτ : TysOK P τ) (h : (τ t).k = .sl e) : P.underlying t = some (.slice e) := by have := (hτ t).kd; rw [h] at this; exact this
theorem und_mp {t : TypeId} {k e : Nat} (hτ : TysOK P τ) (h : (τ t).k = .mp k e) : P.underlying t = some (.map k e) := by have := (hτ t).kd; rw [h] at this; exact this
theorem und_str {t : TypeId} {fs : List (Nat × Nat)} (hτ : TysOK P τ) (h : (τ t).k = .str fs) : ∃ F : Array Field, P.underlying t = some (.struct F) ∧ F.toList.map (fun f => (f.offset, f.type)) = fs := by have := (hτ t).kd; rw [h] at this; exact this
theorem und_sca {t : TypeId} (hτ : TysOK P τ) (h : (τ t).k.isSca = true) : ∃ d, P.underlying t = some d ∧ tdAgg d = false := by
  have := (hτ t).kd
  cases hk : (τ t).k <;> simp [hk, Kd.isSca] at h <;> rw [hk] at this
  · exact ⟨_, this, rfl⟩
  · exact ⟨_, this, rfl⟩
  · exact ⟨_, this, rfl⟩
  · exact ⟨_, this, rfl⟩
  · exact ⟨_, this, rfl⟩
  · exact this
theorem run_isAgg_of {t : TypeId} {d : TypeDesc} (hu : P.underlying t = some d) (w : World) : (isAgg t).run P w = .ok (tdAgg d) w := by
  unfold isAgg
  rw [Sem.run_bind, run_underlying hu w]
  cases d <;> rfl

theorem PureRes.of {s : Sem Next} (v : SV) (hw : v.wf n) (hκ : κ v H n) (hr : ∀ w, HR B H w → s.run P w = .ok (.value (v.den B)) w) : PureRes P B H n s κ :=
  ⟨v, v.den B, hw, fun _ => rfl, hκ, hr⟩

theorem ar_sound {nw : Bool} {x : Int} {s : Sem Next} (h : arVC nw x H n κ) (hr : ∀ w, s.run P w = .ok (.value (.int .i64 (IntKind.i64.wrap x))) w) : PureRes P B H n s κ := by
  cases nw with
  | true => exact .of (.int x) trivial h.2 fun w _ => by rw [hr w, wrap_in h.1]; rfl
  | false => exact .of (.int (IntKind.i64.wrap x)) trivial h fun w _ => hr w

theorem int_sound {nw mw : Bool} {op : BinOp} {a b : Int} {t : TypeId} (h : intVC nw mw op a b H n κ) :
    PureRes P B H n (do pure (.value (← binOp op t (.int .i64 a) (.int .i64 b)))) κ := by
  cases op <;> simp only [intVC] at h
  · exact ar_sound h fun w => by simp [binOp, Op.intArith]
  · exact ar_sound h fun w => by simp [binOp, Op.intArith]
  · exact ar_sound h fun w => by simp [binOp, Op.intArith]
  · exact ar_sound h.2 fun w => by simp [binOp, Op.intDiv, h.1]
  · exact .of (.int _) trivial h.2 fun w _ => by simp [binOp, Op.intDiv, h.1, SV.den]
  · exact .of (.bool _) trivial h fun w _ => by simp [binOp, Op.intCmp, SV.den]; rfl
  · exact .of (.bool _) trivial h fun w _ => by simp [binOp, Op.intCmp, SV.den, bne]; rfl
  · exact .of (.bool _) trivial h fun w _ => by simp [binOp, Op.intCmp, SV.den]
  · exact .of (.bool _) trivial h fun w _ => by simp [binOp, Op.intCmp, SV.den]
  · exact .of (.bool _) trivial h fun w _ => by simp [binOp, Op.intCmp, SV.den]
  · exact .of (.bool _) trivial h fun w _ => by simp [binOp, Op.intCmp, SV.den]

theorem eqGuard_int (op : BinOp) (t : TypeId) (x y : Operand) (k k' : IntKind) (a b : Int) (w : World) : (eqGuard op t x y (.int k a) (.int k' b)).run P w = .ok () w := by
  cases op <;> rfl
theorem eqGuard_bool (op : BinOp) (t : TypeId) (x y : Operand) (a b : Bool) (w : World) : (eqGuard op t x y (.bool a) (.bool b)).run P w = .ok () w := by
  cases op <;> rfl

theorem num_sound {op : BinOp} {k k' : IntKind} {a b : Int} {t : TypeId} (h : numVC op k k' a b H n κ) :
    PureRes P B H n (do pure (.value (← binOp op t (.int k a) (.int k' b)))) κ := by
  cases op <;> simp only [numVC] at h
  all_goals first
    | (exact h.elim; done)
    | (obtain ⟨rfl, h⟩ := h
       exact .of (.lit (.int _ _)) trivial h fun w _ => by simp [binOp, Op.intArith, Op.intBits, SV.den]; done)
    | exact .of (.lit (.int _ _)) trivial h.2 fun w _ => by simp [binOp, Op.shift, SV.den, Int.not_lt.2 h.1]
theorem bin_sound {nw mw : Bool} {op : BinOp} {t : TypeId} {X Y : Operand} {x y : SV} (hτ : TysOK P τ) (h : binVC P nw mw op t (τ t) x y H n κ) :
    PureRes P B H n (do pure (.value (← (do eqGuard op t X Y (x.den B) (y.den B); binOp op t (x.den B) (y.den B))))) κ := by
  unfold binVC at h
  split at h
  · rename_i a b
    have := int_sound (P := P) (B := B) (t := t) h
    obtain ⟨v, xx, h1, h2, h3, h4⟩ := this
    refine ⟨v, xx, h1, h2, h3, fun w hw => ?_⟩
    have h5 := h4 w hw
    have he := eqGuard_int (P := P) op t X Y .i64 .i64 a b w
    simp only [Sem.run_bind, SV.den] at h5 ⊢
    rw [he]
    exact h5
  · rename_i k a k' b
    obtain ⟨v, xx, h1, h2, h3, h4⟩ := num_sound (P := P) (B := B) (t := t) h
    refine ⟨v, xx, h1, h2, h3, fun w hw => ?_⟩
    have h5 := h4 w hw
    have he := eqGuard_int (P := P) op t X Y k k' a b w
    simp only [Sem.run_bind, SV.den] at h5 ⊢
    rw [he]
    exact h5
  · rename_i k a b
    obtain ⟨v, xx, h1, h2, h3, h4⟩ := num_sound (P := P) (B := B) (t := t) h
    refine ⟨v, xx, h1, h2, h3, fun w hw => ?_⟩
    have h5 := h4 w hw
    have he := eqGuard_int (P := P) op t X Y k .i64 a b w
    simp only [Sem.run_bind, SV.den] at h5 ⊢
    rw [he]
    exact h5
  · rename_i a b
    obtain ⟨hk, h⟩ := h
    have hu := und_bool hτ hk
    have he := eqGuard_bool (P := P) op t X Y a b
    cases op <;> simp only at h
    · exact .of (.bool _) trivial h fun w _ => by
        have h1 := he w
        have h2 := run_eql_bool (P := P) w t a b hu
        simp [SV.den, h1, h2]
    · exact .of (.bool _) trivial h fun w _ => by
        have h1 := he w
        have h2 := run_neq_bool (P := P) w t a b hu
        simp [SV.den, h1, h2]
  · rename_i L M
    obtain ⟨hE, hL, hM, h⟩ := h
    have hE := hE L M hL hM
    cases op <;> simp only at h
    · refine .of (.bool (decide (L = M))) trivial h fun w _ => ?_
      have h1 := (hE w).1 X Y
      have h3 := (hE w).2.2
      simp [SV.den, h1, binOp, h3]
    · refine .of (.bool (!decide (L = M))) trivial h fun w _ => ?_
      have h1 := (hE w).2.1 X Y
      have h3 := (hE w).2.2
      simp [SV.den, h1, binOp, h3]
  · exact h.elim

theorem get_ints_lt (L : List Int) (k : Nat) (h : k < L.length) : (ints L)[k]? = some (.int .i64 (L.getD k 0)) := by
  rw [get_ints, List.getElem?_eq_getElem h]; simp [List.getD, List.getElem?_eq_getElem h]
theorem get_bls_lt (L : List Bool) (k : Nat) (h : k < L.length) : (bls L)[k]? = some (.bool (L.getD k false)) := by
  rw [get_bls, List.getElem?_eq_getElem h]; simp [List.getD, List.getElem?_eq_getElem h]
theorem cell_at {w : World} {b off : Nat} {c : Array Value} {e : TypeId} {fz : Nat × Nat} {v : Value} (hb : w.heap[b]? = some (.cells c e fz)) (hv : c[off]? = some v) : w.cell? ⟨b, off, none⟩ = some v := by
  simp [World.cell?, hb, hv]

theorem run_loadVar_sca {t : TypeId} {b off : Nat} {v : Value} (hτ : TysOK P τ) (hk : (τ t).k.isSca = true) (w : World) (hc : w.cell? ⟨b, off, none⟩ = some v) : (loadVar t ⟨b, off, none⟩).run P w = .ok v w := by
  obtain ⟨d, hu, hd⟩ := und_sca hτ hk
  unfold loadVar
  simp [run_isAgg_of hu, hd, hc]

theorem run_loadVar_agg {t : TypeId} {b off : Nat} {c : Array Value} {e : TypeId} {fz : Nat × Nat} {d : TypeDesc} (hτ : TysOK P τ) (hu : P.underlying t = some d) (hd : tdAgg d = true) (hk : (τ t).k ≠ .other) (w : World)
    (hb : w.heap[b]? = some (.cells c e fz)) (hl : off + (τ t).size ≤ c.size) : (loadVar t ⟨b, off, none⟩).run P w = .ok (.agg ((c.toList.drop off).take (τ t).size).toArray) w := by
  unfold loadVar
  have hlen : ((c.toList.drop off).take (τ t).size).length = (τ t).size := by simp; omega
  have := run_loadCells_list (P := P) w ⟨b, off, none⟩ ((c.toList.drop off).take (τ t).size) (fun j v hv => by
    have hj : j < (τ t).size := by
      rcases Nat.lt_or_ge j (τ t).size with h | h
      · exact h
      · rw [List.getElem?_eq_none (by omega)] at hv; cases hv
    have hadd : (⟨b, off, none⟩ : Addr).add j = ⟨b, off + j, none⟩ := by unfold Addr.add; split <;> simp_all
    rw [hadd]
    refine cell_at hb ?_
    rw [List.getElem?_take, if_pos hj, List.getElem?_drop] at hv
    simpa using hv)
  rw [hlen] at this
  simp [run_isAgg_of hu, hd, run_info hτ hk, this]

theorem load_sound {t : TypeId} {a : SV} (hτ : TysOK P τ) (hH : hwf n H) (h : loadVC (τ t) a H n κ) :
    PureRes P B H n (do pure (.value (← Instr.loadAt t (a.den B)))) κ := by
  unfold loadVC at h
  split at h
  · rename_i b off
    unfold loadB at h
    split at h
    · rename_i L e hg
      have hb : ∀ w, HR B H w → w.heap[B b]? = some (.cells (ints L) e (0, 0)) := fun w hw => hw.at_ b _ hg rfl
      split at h
      · rename_i hk
        refine .of (.int _) trivial h.2 fun w hw => ?_
        have hc : w.cell? ⟨B b, off, none⟩ = some (.int .i64 (L.getD off 0)) := cell_at (hb w hw) (by first | rw [get_ints_lt _ _ h.1] | rw [get_bls_lt _ _ h.1])
        simp [SV.den, Instr.loadAt, Instr.sureAddr, run_loadVar_sca hτ (by rw [hk]; rfl) w hc]
      · rename_i k e' hk
        refine .of (.arr _) trivial h.2 fun w hw => ?_
        have := run_loadVar_agg hτ (und_arr hτ hk) rfl (by rw [hk]; simp) w (hb w hw) (off := off) (by simpa using h.1)
        simp [SV.den, Instr.loadAt, Instr.sureAddr, this, ints, List.map_take, List.map_drop]
      · rename_i fs hk
        obtain ⟨F, hF, _⟩ := und_str hτ hk
        refine .of (.arr _) trivial h.2 fun w hw => ?_
        have := run_loadVar_agg hτ hF rfl (by rw [hk]; simp) w (hb w hw) (off := off) (by simpa using h.1)
        simp [SV.den, Instr.loadAt, Instr.sureAddr, this, ints, List.map_take, List.map_drop]
      · exact h.elim
    · rename_i L e hg
      have hb : ∀ w, HR B H w → w.heap[B b]? = some (.cells (bls L) e (0, 0)) := fun w hw => hw.at_ b _ hg rfl
      split at h
      · rename_i hk
        refine .of (.bool _) trivial h.2 fun w hw => ?_
        have hc : w.cell? ⟨B b, off, none⟩ = some (.bool (L.getD off false)) := cell_at (hb w hw) (by first | rw [get_ints_lt _ _ h.1] | rw [get_bls_lt _ _ h.1])
        simp [SV.den, Instr.loadAt, Instr.sureAddr, run_loadVar_sca hτ (by rw [hk]; rfl) w hc]
      · rename_i k e' hk
        refine .of (.barr _) trivial h.2 fun w hw => ?_
        have := run_loadVar_agg hτ (und_arr hτ hk) rfl (by rw [hk]; simp) w (hb w hw) (off := off) (by simpa using h.1)
        simp [SV.den, Instr.loadAt, Instr.sureAddr, this, bls, List.map_take, List.map_drop]
      · exact h.elim
    · rename_i l e hg
      split at h
      · rename_i fs hk
        obtain ⟨F, hF, _⟩ := und_str hτ hk
        refine .of (.stc _) ?_ h.2 fun w hw => ?_
        · simp only [SV.wf, wfL_iff]
          intro x hx
          exact (wfL_iff n l).1 ((hH b _ hg).2) x (List.mem_of_mem_drop (List.mem_of_mem_take hx))
        · have hb := hw.at_ b _ hg rfl
          have := run_loadVar_agg hτ hF rfl (by rw [hk]; simp) w hb (off := off) (by simpa using h.1)
          simp [SV.den, Instr.loadAt, Instr.sureAddr, this, denL_map, List.map_take, List.map_drop]
      obtain ⟨hk, h⟩ := h
      unfold cellM at h
      split at h
      · rename_i v hv
        refine .of v ?_ h.2 fun w hw => ?_
        · exact (wfL_iff n l).1 ((hH b _ hg).2) v (List.mem_of_getElem? hv)
        · have hb := hw.at_ b _ hg rfl
          have hc : w.cell? ⟨B b, off, none⟩ = some (v.den B) := cell_at hb (by simp [denL_map, hv])
          simp [SV.den, Instr.loadAt, Instr.sureAddr, run_loadVar_sca hτ hk w hc]
      · exact h.elim
    · rename_i o L hg
      have hb : ∀ w, HR B H w → ∃ (c : Array Value) (e : TypeId) (fz : Nat × Nat), w.heap[B b]? = some (.cells c e fz) ∧ ∀ i, i < L.length → c[o + i]? = some (.int .i64 (L.getD i 0)) := fun w hw => hw.at_ b _ hg rfl
      have agg : ∀ (k : Nat) (c : Array Value), 0 < k → o ≤ off → off + k ≤ o + L.length → (∀ i, i < L.length → c[o + i]? = some (.int .i64 (L.getD i 0))) → off + k ≤ c.size ∧ ((c.toList.drop off).take k).toArray = ints ((L.drop (off - o)).take k) := by
        intro k c h0 h1 h2 hc
        have hel : ∀ j, j < k → c[off + j]? = some (.int .i64 (L.getD (off - o + j) 0)) := fun j hj => by
          have := hc (off - o + j) (by omega)
          rw [show o + (off - o + j) = off + j by omega] at this
          exact this
        refine ⟨?_, ?_⟩
        · have := (Array.getElem?_eq_some_iff.1 (hc (off + k - 1 - o) (by omega))).1
          omega
        · apply Array.ext'
          apply List.ext_getElem?
          intro j
          simp only [List.getElem?_take, toList_ints, List.getElem?_map, List.getElem?_drop]
          split
          · rename_i hj
            rw [Array.getElem?_toList, hel j hj]
            simp [List.getD, List.getElem?_eq_getElem (show off - o + j < L.length by omega)]
          · rfl
      split at h
      · rename_i hk
        refine .of (.int _) trivial h.2.2 fun w hw => ?_
        obtain ⟨c, e, fz, g1, g2⟩ := hb w hw
        have g3 := g2 (off - o) (by omega)
        rw [show o + (off - o) = off by omega] at g3
        have hc : w.cell? ⟨B b, off, none⟩ = some (.int .i64 (L.getD (off - o) 0)) := cell_at g1 g3
        simp [SV.den, Instr.loadAt, Instr.sureAddr, run_loadVar_sca hτ (by rw [hk]; rfl) w hc]
      · rename_i k e' hk
        refine .of (.arr _) trivial h.2.2.2 fun w hw => ?_
        obtain ⟨c, e, fz, g1, g2⟩ := hb w hw
        obtain ⟨g3, g4⟩ := agg _ c h.1 h.2.1 h.2.2.1 g2
        have := run_loadVar_agg hτ (und_arr hτ hk) rfl (by rw [hk]; simp) w g1 (off := off) g3
        simp [SV.den, Instr.loadAt, Instr.sureAddr, this, g4]
      · rename_i fs hk
        obtain ⟨F, hF, _⟩ := und_str hτ hk
        refine .of (.arr _) trivial h.2.2.2 fun w hw => ?_
        obtain ⟨c, e, fz, g1, g2⟩ := hb w hw
        obtain ⟨g3, g4⟩ := agg _ c h.1 h.2.1 h.2.2.1 g2
        have := run_loadVar_agg hτ hF rfl (by rw [hk]; simp) w g1 (off := off) g3
        simp [SV.den, Instr.loadAt, Instr.sureAddr, this, g4]
      · exact h.elim
    · rename_i o L hg
      have hb : ∀ w, HR B H w → ∃ (c : Array Value) (e : TypeId) (fz : Nat × Nat), w.heap[B b]? = some (.cells c e fz) ∧ ∀ i, i < L.length → c[o + i]? = some (.int .u8 (L.getD i 0)) := fun w hw => hw.at_ b _ hg rfl
      split at h
      · rename_i hk
        refine .of (.lit (.int .u8 _)) trivial h.2.2 fun w hw => ?_
        obtain ⟨c, e, fz, g1, g2⟩ := hb w hw
        have g3 := g2 (off - o) (by omega)
        rw [show o + (off - o) = off by omega] at g3
        have hc : w.cell? ⟨B b, off, none⟩ = some (.int .u8 (L.getD (off - o) 0)) := cell_at g1 g3
        simp [SV.den, Instr.loadAt, Instr.sureAddr, run_loadVar_sca hτ (by rw [hk]; rfl) w hc]
      · exact h.elim
    · exact h.elim
  · exact h.elim

theorem add_addr (b off k : Nat) : (⟨b, off, none⟩ : Addr).add k = ⟨b, off + k, none⟩ := by unfold Addr.add; split <;> simp_all

theorem extract_sound {v : SV} {i : Nat} (hv : v.wf n) (h : extractVC v i H n κ) : PureRes P B H n (do pure (.value (← Instr.extract (v.den B) i))) κ := by
  unfold extractVC at h
  split at h
  · rename_i l
    split at h
    · rename_i x hx
      refine .of x ((wfL_iff n l).1 (by simpa [SV.wf] using hv) x (List.mem_of_getElem? hx)) h fun w _ => ?_
      simp [SV.den, Instr.extract, denL_map, hx]
    · exact h.elim
  · exact h.elim

theorem fieldAddr_sound {t : TypeId} {x : SV} {f : Nat} (hτ : TysOK P τ) (hx : x.wf n) (h : fieldAddrVC τ (τ t) x f H n κ) : PureRes P B H n (do pure (.value (← Instr.fieldAt t (x.den B) f))) κ := by
  unfold fieldAddrVC at h
  split at h
  · rename_i fs b off hk
    split at h
    · rename_i o ft hf
      obtain ⟨h1, h2, h3⟩ := h
      obtain ⟨F, hF, hfs⟩ := und_str hτ hk
      refine .of (.ptr b (off + o)) (by simpa [SV.wf] using hx) h3 fun w _ => ?_
      have : ∃ g, F[f]? = some g ∧ g.offset = o ∧ g.type = ft := by
        rw [← hfs] at hf
        simp at hf
        exact hf
      obtain ⟨g, hg, rfl, rfl⟩ := this
      simp [SV.den, Instr.fieldAt, run_underlying hF, hg, Instr.sureAddr, fieldPlace, run_info hτ h1, h2, add_addr]
    · exact h.elim
  · exact h.elim

theorem part_sound {t : TypeId} {L : List Int} {off : Nat} (hτ : TysOK P τ) (h : partVC (τ t) L off H n κ) : PureRes P B H n (do pure (.value (← part t (ints L) off))) κ := by
  unfold partVC at h
  split at h
  · rename_i hk
    refine .of (.int _) trivial h.2 fun w _ => ?_
    have hc := get_ints_lt L off h.1
    simp only [part, Sem.run_bind, run_isAgg_of (und_int hτ hk), tdAgg, hc, Result.andThen_ok]
    simp [SV.den]
  · rename_i k e hk
    refine .of (.arr _) trivial h fun w _ => ?_
    simp [part, run_isAgg_of (und_arr hτ hk), tdAgg, run_info hτ (t := t) (by rw [hk]; simp), SV.den, ints, List.map_take, List.map_drop]
  · rename_i fs hk
    obtain ⟨F, hF, _⟩ := und_str hτ hk
    refine .of (.arr _) trivial h fun w _ => ?_
    simp [part, run_isAgg_of hF, tdAgg, run_info hτ (t := t) (by rw [hk]; simp), SV.den, ints, List.map_take, List.map_drop]
  · exact h.elim


theorem field_sound {t : TypeId} {x : SV} {f : Nat} (hτ : TysOK P τ) (hx : x.wf n) (h : fieldVC τ (τ t) x f H n κ) : PureRes P B H n (do pure (.value (← Instr.field t (x.den B) f))) κ := by
  unfold fieldVC at h
  split at h
  · rename_i fs L hk
    split at h
    · rename_i o ft hf
      obtain ⟨F, hF, hfs⟩ := und_str hτ hk
      have : ∃ g, F[f]? = some g ∧ g.offset = o ∧ g.type = ft := by
        rw [← hfs] at hf
        simp at hf
        exact hf
      obtain ⟨g, hg, rfl, rfl⟩ := this
      obtain ⟨v, xx, h1, h2, h3, h4⟩ := part_sound (P := P) (B := B) hτ h
      refine ⟨v, xx, h1, h2, h3, fun w hw => ?_⟩
      have h5 := h4 w hw
      simp only [Sem.run_bind] at h5
      simp [SV.den, Instr.field, run_underlying hF, hg, asAgg]
      exact h5
    · exact h.elim
  · rename_i fs l hk
    split at h
    · rename_i o ft hf
      obtain ⟨hsc, h⟩ := h
      unfold cellM at h
      split at h
      · rename_i v hv
        obtain ⟨F, hF, hfs⟩ := und_str hτ hk
        have : ∃ g, F[f]? = some g ∧ g.offset = o ∧ g.type = ft := by
          rw [← hfs] at hf
          simp at hf
          exact hf
        obtain ⟨g, hg, rfl, rfl⟩ := this
        obtain ⟨d, hu, hd⟩ := und_sca hτ hsc
        refine .of v ((wfL_iff n l).1 (by simpa [SV.wf] using hx) v (List.mem_of_getElem? hv)) h.2 fun w _ => ?_
        simp [SV.den, Instr.field, run_underlying hF, hg, asAgg, part, run_isAgg_of hu, hd, denL_map, hv]
      · exact h.elim
    · exact h.elim
  · exact h.elim
theorem indexAddr_sound {t : TypeId} {x i : SV} (hτ : TysOK P τ) (hx : x.wf n) (h : indexAddrVC τ (τ t) x i H n κ) : PureRes P B H n (do pure (.value (← Instr.indexAt t (x.den B) (i.den B)))) κ := by
  unfold indexAddrVC at h
  split at h
  · rename_i len e b off z hk
    obtain ⟨h1, h2, h3, h4⟩ := h
    refine .of (.ptr b _) (by simpa [SV.wf] using hx) h4 fun w _ => ?_
    simp [SV.den, Instr.indexAt, asIntOf, run_underlying (und_arr hτ hk), Instr.sureAddr, h2, h3, run_info hτ h1, add_addr]
  · rename_i e b off len cap z hk
    obtain ⟨h1, h2, h3, h4⟩ := h
    refine .of (.ptr b _) (by simpa [SV.wf] using hx) h4 fun w _ => ?_
    simp [SV.den, Instr.indexAt, asIntOf, run_underlying (und_sl hτ hk), h2, h3, run_info hτ h1, add_addr]
  · exact h.elim

theorem index_sound {t : TypeId} {x i : SV} (hτ : TysOK P τ) (h : indexVC τ (τ t) x i H n κ) : PureRes P B H n (do pure (.value (← Instr.index t (x.den B) (i.den B)))) κ := by
  unfold indexVC at h
  split at h
  · rename_i len e L z hk
    obtain ⟨h2, h3, h4⟩ := h
    have hne : (τ e).k ≠ .other := by
      unfold partVC at h4
      split at h4 <;> first | (rename_i hk; rw [hk]; simp) | (rename_i a b hk; rw [hk]; simp) | exact h4.elim
    obtain ⟨v, xx, g1, g2, g3, g4⟩ := part_sound (P := P) (B := B) hτ h4
    refine ⟨v, xx, g1, g2, g3, fun w hw => ?_⟩
    have h5 := g4 w hw
    simp only [Sem.run_bind] at h5
    simp [SV.den, Instr.index, asIntOf, run_underlying (und_arr hτ hk), h2, h3, run_info hτ hne]
    exact h5
  · exact h.elim

theorem bnd_sound {o : Option SV} {dflt hi : Nat} {κ' : Nat → Prop} (h : bndVC o dflt hi κ') :
    ∃ l, κ' l ∧ (match o with | none => l = dflt | some v => l ≤ hi ∧ ∃ z : Int, v.den B = .int .i64 z ∧ 0 ≤ z ∧ z ≤ hi ∧ z.toNat = l) := by
  unfold bndVC at h
  split at h
  · exact ⟨_, h, rfl⟩
  · rename_i z
    obtain ⟨h1, h2, h3⟩ := h
    exact ⟨_, h3, by omega, z, rfl, h1, h2, rfl⟩
  · exact h.elim
theorem run_sliceBound {v : Value} {z : Int} {y : Nat} {c : BoundsCode} (hv : v = .int .i64 z) (h0 : 0 ≤ z) (h1 : z ≤ y) (w : World) : (Instr.sliceBound v y c).run P w = .ok z.toNat w := by
  subst hv
  simp [Instr.sliceBound, asIntOf, h0, h1]
/-- The bounds of a slice expression without a third index. -/
theorem run_bounds {isS : Bool} {len cap hb : Nat} {lo hi : Option SV} {κ' : Nat → Nat → Prop} (hhb : hb = cap) (h : bndVC hi len hb fun h => bndVC lo 0 h fun l => κ' h l) :
    ∃ h l, κ' h l ∧ ∀ w, (Instr.sliceBounds isS len cap (lo.map (SV.den B)) (hi.map (SV.den B)) none).run P w = .ok (l, h, cap) w := by
  subst hhb
  obtain ⟨hh, h1, h2⟩ := bnd_sound (B := B) h
  obtain ⟨l, h3, h4⟩ := bnd_sound (B := B) h1
  refine ⟨hh, l, h3, fun w => ?_⟩
  unfold Instr.sliceBounds
  cases hi with
  | none =>
    simp only at h2
    subst h2
    cases lo with
    | none => simp only at h4; subst h4; simp
    | some v =>
      obtain ⟨h5, z, hz, h6, h7, h8⟩ := h4
      simp [run_sliceBound hz h6 h7, h8]
  | some u =>
    obtain ⟨h9, y, hy, h10, h11, h12⟩ := h2
    cases lo with
    | none => simp only at h4; subst h4; simp [run_sliceBound hy h10 h11, h12]
    | some v =>
      obtain ⟨h5, z, hz, h6, h7, h8⟩ := h4
      simp [run_sliceBound hy h10 h11, h12, run_sliceBound hz h6 h7, h8]

theorem slice_sound {t : TypeId} {x : SV} {lo hi : Option SV} (hτ : TysOK P τ) (hx : x.wf n) (h : sliceVC τ (τ t) x lo hi H n κ) :
    PureRes P B H n (do pure (.value (← Instr.sliceAt t (x.den B) (lo.map (SV.den B)) (hi.map (SV.den B)) none))) κ := by
  unfold sliceVC at h
  split at h
  · rename_i len e b off hk
    obtain ⟨h1, h2⟩ := h
    obtain ⟨hh, l, h3, h4⟩ := run_bounds (P := P) (B := B) (isS := false) rfl h2
    refine .of (.slice b _ _ _) (by simpa [SV.wf] using hx) h3 fun w _ => ?_
    simp [SV.den, Instr.sliceAt, run_underlying (und_arr hτ hk), Instr.sureAddr, h4, run_info hτ h1, cutOff]
    split <;> simp [add_addr]
  · rename_i e b off len cap hk
    obtain ⟨h1, h2⟩ := h
    obtain ⟨hh, l, h3, h4⟩ := run_bounds (P := P) (B := B) (isS := true) rfl h2
    refine .of (.slice b _ _ _) (by simpa [SV.wf] using hx) h3 fun w _ => ?_
    simp [SV.den, Instr.sliceAt, Instr.slice, run_underlying (und_sl hτ hk), h4, run_info hτ h1, cutOff]
    split <;> simp [add_addr]
  · rename_i e hk
    obtain ⟨h1, h2⟩ := h
    obtain ⟨hh, l, h3, h4⟩ := run_bounds (P := P) (B := B) (isS := true) rfl h2
    have h5 := bnd_sound (B := B) h2
    obtain ⟨hh', h6, h7⟩ := h5
    obtain ⟨l', h8, h9⟩ := bnd_sound (B := B) h6
    have hz := h4 default
    refine .of .nils trivial h3 fun w _ => ?_
    have hb : hh = 0 := by
      have := h4 w
      unfold Instr.sliceBounds at this
      cases hi with
      | none =>
        cases lo with
        | none => simp at this; omega
        | some v =>
          simp only at h7; subst h7
          obtain ⟨_, z, hz, g1, g2, _⟩ := h9
          simp [run_sliceBound hz g1 g2] at this; omega
      | some u =>
        obtain ⟨g0, y, hy, g1, g2, g3⟩ := h7
        cases lo with
        | none => simp [run_sliceBound hy g1 g2] at this; omega
        | some v =>
          obtain ⟨_, z, hz, g4, g5, _⟩ := h9
          have g6 : z ≤ (y.toNat : Nat) := by omega
          simp [run_sliceBound hy g1 g2, run_sliceBound hz g4 g6] at this; omega
    subst hb
    simp [SV.den, Instr.sliceAt, Instr.slice, run_underlying (und_sl hτ hk), h4, run_info hτ h1]
  · exact h.elim


theorem foldl_set (M : List Value) : ∀ (off k : Nat) (cs : Array Value), off + k + M.length ≤ cs.size →
    (M.zipIdx k).foldl (fun cs (x : Value × Nat) => cs.setIfInBounds (off + x.2) x.1) cs = (cs.toList.take (off + k) ++ M ++ cs.toList.drop (off + k + M.length)).toArray := by
  induction M with
  | nil => intro off k cs _; simp
  | cons v M ih =>
    intro off k cs h
    simp only [List.length_cons] at h
    simp only [List.zipIdx_cons, List.foldl_cons]
    rw [ih off (k + 1) _ (by simp; omega)]
    congr 1
    have e := list_seg_step cs.toList (off + k) v M (by simp; omega)
    simpa [Array.toList_setIfInBounds, Nat.add_assoc] using e

theorem fill_sound {B : Nat → Nat} {pl : Nat → Option (Nat × Nat)} : ∀ (parts : List (Nat × SV)) (cells L : List Int), fillI pl cells parts = some L →
    Instr.fill pl (ints cells) (parts.map fun p => (p.1, p.2.den B)) = some (ints L)
  | [], cells, L, h => by simp [fillI] at h; subst h; simp [Instr.fill]
  | (i, v) :: rest, cells, L, h => by
    unfold fillI at h
    split at h
    · rename_i off x hp
      split at h
      · rename_i hlt
        have ih := fill_sound (B := B) (pl := pl) rest _ L h
        simp only [List.map_cons, Instr.fill, hp, SV.den, Value.cells]
        simp only [List.size_toArray, List.length_cons, List.length_nil, size_ints]
        rw [if_neg (by simp; omega)]
        rw [← ih]
        congr 1
        simp [ints, List.zipIdx]
      · cases h
    · rename_i off s M hp
      split at h
      · rename_i hlt
        have ih := fill_sound (B := B) (pl := pl) rest _ L h
        simp only [List.map_cons, Instr.fill, hp, SV.den]
        split
        · rename_i hc; simp [Value.cells] at hc; omega
        rw [← ih]
        congr 1
        simp only [Value.cells]
        have := foldl_set (M.map (Value.int .i64)) off 0 (ints cells) (by simp; omega)
        simp only [Nat.add_zero, toList_ints, List.length_map] at this
        rw [← Array.foldl_toList]
        simp only [Array.toList_zipIdx, toList_ints]
        rw [this]
        simp [ints, List.map_take, List.map_drop]
      · cases h
    · cases h

theorem ty_info {t : TypeId} (hτ : TysOK P τ) (hk : (τ t).k ≠ .other) : ∃ i, P.info? t = some i ∧ i.size = (τ t).size ∧ i.bytes = (τ t).bytes ∧ ((τ t).z.known = true → i.zero = some ((τ t).z.den fun _ => 0)) := (hτ t).info hk

theorem run_zero {t : TypeId} {Z : List Int} (hτ : TysOK P τ) (hk : (τ t).k ≠ .other) (hz : (τ t).z = .arr Z) (w : World) : (zeroValue t).run P w = .ok (.agg (ints Z)) w := by
  obtain ⟨i, hi, _, _, h⟩ := ty_info hτ hk
  have := h (by rw [hz]; rfl)
  rw [hz] at this
  simp [zeroValue, typeInfo, hi, this, SV.den]

theorem run_fields {f : Field → Nat × Nat} {F : Array Field} {g : Field → Sem (Nat × Nat)} (hg : ∀ x ∈ F.toList, ∀ w, (g x).run P w = .ok (f x) w) (w : World) : (F.mapM g).run P w = .ok (F.map f) w := by
  have key : ∀ (l : List Field), (∀ x ∈ l, ∀ w, (g x).run P w = .ok (f x) w) → ∀ w, (l.mapM g).run P w = .ok (l.map f) w := by
    intro l
    induction l with
    | nil => intro _ w; simp
    | cons x l ih =>
      intro hl w
      simp only [List.mapM_cons, Sem.run_bind]
      rw [hl x (by simp) w]
      simp only [Result.andThen_ok]
      rw [ih (fun y hy => hl y (by simp [hy])) w]
      simp
  have := key F.toList hg w
  rw [Array.mapM_eq_mapM_toList]
  simp only [Sem.run_map, this, Result.andThen_ok]
  congr 1
  apply Array.ext'
  simp

theorem run_zeroS {t : TypeId} {Z : List SV} (hτ : TysOK P τ) (hk : (τ t).k ≠ .other) (hz : (τ t).z = .stc Z) (w : World) : (zeroValue t).run P w = .ok (.agg (denL (fun _ => 0) Z).toArray) w := by
  obtain ⟨i, hi, _, _, h⟩ := ty_info hτ hk
  have := h (by rw [hz]; rfl)
  rw [hz] at this
  simp [zeroValue, typeInfo, hi, this, SV.den]
theorem oneCell_den {v : SV} (h : oneCellS v = true) (B : Nat → Nat) : (v.den B).cells = #[v.den B] ∧ (v.den B).oneCell' = true := by
  cases v <;> simp only [oneCellS] at h <;> first | (cases h; done) | exact litOne_spec h | exact ⟨rfl, rfl⟩
theorem fillT_sound {B : Nat → Nat} {pl : Nat → Option Nat} : ∀ (parts : List (Nat × SV)) (cells L : List SV), fillT pl cells parts = some L →
    Instr.fill (fun i => (pl i).map fun o => (o, 1)) (denL B cells).toArray (parts.map fun p => (p.1, p.2.den B)) = some (denL B L).toArray
  | [], cells, L, h => by simp [fillT] at h; subst h; simp [Instr.fill]
  | (i, v) :: rest, cells, L, h => by
    unfold fillT at h
    split at h
    · rename_i off hp hv
      split at h
      · rename_i hlt
        have ih := fillT_sound (B := B) (pl := pl) rest _ L h
        have hc := (oneCell_den hv B).1
        simp only [List.map_cons, Instr.fill, hp, Option.map_some, hc]
        simp only [List.size_toArray, List.length_cons, List.length_nil, length_denL]
        rw [if_neg (by simp; omega)]
        rw [← ih]
        congr 1
        simp [denL_map, List.map_set, List.zipIdx]
      · cases h
    · cases h
theorem fillT_wf {n : Nat} {pl : Nat → Option Nat} : ∀ (parts : List (Nat × SV)) (cells L : List SV), fillT pl cells parts = some L → wfL n cells → (∀ q ∈ parts, q.2.wf n) → wfL n L
  | [], cells, L, h, hc, _ => by simp [fillT] at h; subst h; exact hc
  | (i, v) :: rest, cells, L, h, hc, hp => by
    unfold fillT at h
    split at h
    · split at h
      · refine fillT_wf rest _ L h ?_ fun q hq => hp q (List.mem_cons_of_mem _ hq)
        rw [wfL_iff]
        intro x hx
        rcases List.mem_or_eq_of_mem_set hx with hx | rfl
        · exact (wfL_iff n cells).1 hc x hx
        · exact hp (i, x) (List.mem_cons_self ..)
      · cases h
    · cases h
theorem den_flat1 {v : SV} (h : flat1 v = true) (B B' : Nat → Nat) : v.den B = v.den B' := by cases v <;> simp [flat1] at h <;> rfl
theorem wf_flat1 {v : SV} (h : flat1 v = true) (n : Nat) : v.wf n := by cases v <;> simp [flat1] at h <;> trivial
theorem denL_flat {l : List SV} (h : l.all flat1 = true) (B B' : Nat → Nat) : denL B l = denL B' l := by
  rw [denL_map, denL_map]
  exact List.map_congr_left fun x hx => den_flat1 (List.all_eq_true.1 h x hx) B B'
theorem den_flat {v : SV} (h : flat v = true) (B B' : Nat → Nat) : v.den B = v.den B' := by
  cases v <;> simp only [flat] at h <;> first | (cases h; done) | rfl | (simp only [SV.den]; rw [denL_flat h B B'])
theorem wf_flat {v : SV} (h : flat v = true) (n : Nat) : v.wf n := by
  cases v <;> simp only [flat] at h <;> first | (cases h; done) | trivial | (simp only [SV.wf, wfL_iff]; exact fun x hx => wf_flat1 (List.all_eq_true.1 h x hx) n)
theorem build_sound {t : TypeId} {parts : List (Nat × SV)} (hτ : TysOK P τ) (hwp : ∀ q ∈ parts, q.2.wf n) (h : buildVC τ (τ t) parts H n κ) :
    PureRes P B H n (do pure (.value (← Instr.build t (parts.map fun p => (p.1, p.2.den B)).toArray))) κ := by
  unfold buildVC at h
  split at h
  · rename_i Z k e hz hk
    obtain ⟨h1, h⟩ := h
    split at h
    · rename_i L hL
      have hne : (τ t).k ≠ .other := by rw [hk]; simp
      have hf := fill_sound (B := B) _ _ _ hL
      refine .of (.arr L) trivial h fun w _ => ?_
      simp [Instr.build, run_zero hτ hne hz, run_underlying (und_arr hτ hk), run_info hτ h1, Value.cells, hf, SV.den]
    · exact h.elim
  · rename_i Z fs hz hk
    obtain ⟨h1, h⟩ := h
    split at h
    · rename_i L hL
      have hne : (τ t).k ≠ .other := by rw [hk]; simp
      obtain ⟨F, hF, hfs⟩ := und_str hτ hk
      have hf := fill_sound (B := B) _ _ _ hL
      refine .of (.arr L) trivial h fun w _ => ?_
      have hm := run_fields (P := P) (f := fun f => (f.offset, (τ f.type).size)) (F := F) (g := fun f => do pure (f.offset, ← sizeOf f.type)) (fun x hx w => by
        have hx' : (x.offset, x.type) ∈ fs := by rw [← hfs]; exact List.mem_map.2 ⟨x, hx, rfl⟩
        have := List.all_eq_true.1 h1 _ hx'
        have hne' : (τ x.type).k ≠ .other := by intro hh; simp [hh] at this
        simp [run_info hτ hne']) w
      have hpl : (fun i => (F.map fun f => (f.offset, (τ f.type).size))[i]?) = fun (i : Nat) => (fs[i]?).map fun (x : Nat × Nat) => (x.1, (τ x.2).size) := by
        funext i
        rw [← hfs]
        simp
        cases F[i]? <;> rfl
      rw [← hpl] at hf
      simp only [Instr.build, Sem.run_bind, run_zero hτ hne hz, Result.andThen_ok, run_underlying hF, hm, Value.cells]
      simp only [hf]
      simp [SV.den]
    · exact h.elim
  · rename_i Z fs hz hk
    obtain ⟨hZ, h1, hs1, h⟩ := h
    split at h
    · rename_i L hL
      have hne : (τ t).k ≠ .other := by rw [hk]; simp
      obtain ⟨F, hF, hfs⟩ := und_str hτ hk
      have hf := fillT_sound (B := B) _ _ _ hL
      refine .of (.stc L) ?_ h fun w _ => ?_
      · simp only [SV.wf]
        refine fillT_wf parts Z L hL ?_ hwp
        rw [wfL_iff]
        exact fun x hx => wf_flat1 (List.all_eq_true.1 hZ x hx) n
      have hm := run_fields (P := P) (f := fun f => (f.offset, (τ f.type).size)) (F := F) (g := fun f => do pure (f.offset, ← sizeOf f.type)) (fun x hx w => by
        have hx' : (x.offset, x.type) ∈ fs := by rw [← hfs]; exact List.mem_map.2 ⟨x, hx, rfl⟩
        have := List.all_eq_true.1 h1 _ hx'
        have hne' : (τ x.type).k ≠ .other := by intro hh; simp [hh] at this
        simp [run_info hτ hne']) w
      have hpl : (fun i => (F.map fun f => (f.offset, (τ f.type).size))[i]?) = fun (i : Nat) => ((fs[i]?).map fun (x : Nat × Nat) => x.1).map fun o => (o, 1) := by
        funext i
        have hsi : ∀ x ∈ fs, (τ x.2).size = 1 := fun x hx => by simpa using List.all_eq_true.1 hs1 x hx
        rw [← hfs] at hsi ⊢
        cases hq : F[i]? with
        | none => simp [hq]
        | some g =>
          have := hsi (g.offset, g.type) (List.mem_map.2 ⟨g, by
            have := List.mem_of_getElem? (l := F.toList) (i := i) (a := g) (by simpa using hq)
            exact this, rfl⟩)
          simp only at this
          simp [hq, this]
      rw [← hpl] at hf
      rw [denL_flat hZ B (fun _ => 0)] at hf
      simp only [Instr.build, Sem.run_bind, run_zeroS hτ hne hz, Result.andThen_ok, run_underlying hF, hm, Value.cells]
      simp only [hf]
      simp [SV.den]
    · exact h.elim
  · exact h.elim


theorem length_mpE (bv : Bool) : ∀ (l : List (List Int × Int)) (b : Nat), (mpE bv l b).length = l.length
  | [], _ => rfl
  | (k, v) :: r, b => by simp [mpE, length_mpE bv r (b + 1)]
def mfind (bv : Bool) (l : List (List Int × Int)) (K : List Int) (i : Nat) : Option (Nat × Value) := match l with
  | [] => none
  | (k, v) :: r => if K = k then some (i, (mvS bv v).den fun _ => 0) else mfind bv r K (i + 1)
theorem mfind_none {bv : Bool} {K : List Int} : ∀ {l : List (List Int × Int)} {i : Nat}, mfind bv l K i = none → mget l K = 0 ∧ mhas l K = false
  | [], _, _ => ⟨rfl, rfl⟩
  | (k, v) :: r, i, h => by
    unfold mfind at h
    split at h
    · cases h
    · rename_i hk
      have := mfind_none h
      simp [mget, mhas, hk, this]
theorem mfind_some {bv : Bool} {K : List Int} : ∀ {l : List (List Int × Int)} {i : Nat} {q : Nat × Value}, mfind bv l K i = some q → q.2 = (mvS bv (mget l K)).den (fun _ => 0) ∧ mhas l K = true
  | [], _, _, h => by cases h
  | (k, v) :: r, i, q, h => by
    unfold mfind at h
    split at h
    · rename_i hk
      cases h
      simp [mget, mhas, hk]
    · rename_i hk
      have := mfind_some h
      simp [mget, mhas, hk, this]
theorem run_getMap {w : World} {i c : Nat} {es : Array MapEntry} (h : w.heap[i]? = some (.map es c)) : (getObj i).run P w = .ok (.map es c) w := by
  simp [getObj, Sem.run, h]
theorem len_sound {t : TypeId} {x : SV} (hτ : TysOK P τ) (h : lenVC (τ t) x H n κ) (ts : Array TypeId) (ty : TypeId) (ht : ts[0]? = some t) :
    PureRes P B H n (do pure (.value (← Builtin.len_ ts ty #[x.den B]))) κ := by
  unfold lenVC at h
  split at h
  · rename_i e b off len cap hk
    refine .of (.int len) trivial h fun w _ => ?_
    simp [Builtin.len_, ht, run_underlying (und_sl hτ hk), SV.den, goInt]
  · rename_i e hk
    refine .of (.int 0) trivial h fun w _ => ?_
    simp [Builtin.len_, ht, run_underlying (und_sl hτ hk), SV.den, goInt]
  · rename_i len e hk
    refine .of (.int len) trivial h fun w _ => ?_
    simp [Builtin.len_, ht, run_underlying (und_arr hτ hk), SV.den, goInt]
  · rename_i k e b hk
    unfold lenMB at h
    split at h
    · rename_i bv l hb
      refine .of (.int l.length) trivial h fun w hw => ?_
      have h1 := hw.at_ b _ hb rfl
      simp only [SObj.sat, SObj.den] at h1
      simp [Builtin.len_, ht, run_underlying (und_mp hτ hk), SV.den, goInt, run_getMap h1, length_mpE]
    · exact h.elim
  · exact h.elim

/-! Maps: a key among the entries. -/
theorem run_find {k : TypeId} {K : List Int} (hK : KeyI P k K.length) (bv : Bool) (w : World) : ∀ (l : List (List Int × Int)) (b i : Nat), keysOK l K.length →
    (Instr.findAsking k (.agg (ints K)) (mpE bv l b) i).run P w = .ok (mfind bv l K i) w
  | [], b, i, _ => by simp [mpE, Instr.findAsking, mfind]
  | (k0, v) :: r, b, i, hl => by
    have h1 := (hK.2.1 K k0 rfl (hl _ (List.mem_cons_self ..)) w).2.2
    have ih := run_find hK bv w r (b + 1) (i + 1) (fun q hq => hl q (List.mem_cons_of_mem _ hq))
    by_cases h : K = k0
    · subst h; simp [mpE, Instr.findAsking, mfind, h1]
    · simp [mpE, Instr.findAsking, mfind, h1, h, ih]
theorem lookup_sound {t : TypeId} {x i : SV} {ok : Bool} (hτ : TysOK P τ) (h : lookupVC P τ (τ t) x i ok H n κ) : PureRes P B H n (do pure (.value (← Instr.lookup t (x.den B) (i.den B) ok))) κ := by
  unfold lookupVC at h
  split at h
  · rename_i k e b K hk
    unfold lookupB at h
    split at h
    · rename_i bv l hb
      obtain ⟨hK, hl, hne, hz, h⟩ := h
      refine .of (lkRes bv ok l K) ?_ h fun w hw => ?_
      · cases bv <;> cases ok <;> simp [lkRes, mvS, SV.wf, wfL]
      · have h1 := hw.at_ b _ hb rfl
        simp only [SObj.sat, SObj.den] at h1
        obtain ⟨iz, hiz, _, _, hz0⟩ := (hτ e).info hne
        have hz1 : (zeroValue e).run P w = .ok ((mz bv).den fun _ => 0) w := by
          have := hz0 (by rw [hz]; cases bv <;> rfl)
          rw [hz] at this
          simp [zeroValue, typeInfo, hiz, this]
        have hf := run_find hK bv w l 0 0 hl
        have hc := hK.2.2 K rfl
        simp only [SV.den, Instr.lookup, Sem.run_bind, run_underlying (und_mp hτ hk), Result.andThen_ok, run_getMap h1, Sem.run_pure, hc, run_findKey_eq w hK.1, hf]
        cases hm : mfind bv l K 0 with
        | none =>
          obtain ⟨m1, m2⟩ := mfind_none hm
          cases bv <;> cases ok <;> simp [hz1, lkRes, m1, m2, mvS, mz, SV.den, denL]
        | some q =>
          obtain ⟨m1, m2⟩ := mfind_some hm
          obtain ⟨q1, q2⟩ := q
          simp only at m1
          subst m1
          cases bv <;> cases ok <;> simp [lkRes, m2, mvS, SV.den, denL]
    · exact h.elim
  · exact h.elim

theorem map_eval {S : Env} {N : Nat} {a : Act} (hS : SR B N S a) {l : List Operand} (hk : ∀ x ∈ l, (ev S x).known = true) : l.map a.eval = (l.map (ev S)).map (SV.den B) := by
  rw [List.map_map]
  exact List.map_congr_left fun x hx => ev_den hS x (hk x hx)

theorem knownOf {v : SV} (h : v ≠ .non) : v.known = true := by cases v <;> first | rfl | exact absurd rfl h

theorem fillI_known {pl : Nat → Option (Nat × Nat)} : ∀ (ps : List (Nat × SV)) (c L : List Int), fillI pl c ps = some L → ∀ q ∈ ps, q.2.known = true := by
  intro ps
  induction ps with
  | nil => intro c L _ q hq; cases hq
  | cons q0 ps ih =>
    obtain ⟨i0, v0⟩ := q0
    intro c L hf q hq
    unfold fillI at hf
    split at hf
    · split at hf
      · cases hq with
        | head => rfl
        | tail _ hq => exact ih _ _ hf q hq
      · cases hf
    · split at hf
      · cases hq with
        | head => rfl
        | tail _ hq => exact ih _ _ hf q hq
      · cases hf
    · cases hf

theorem fillT_known {pl : Nat → Option Nat} : ∀ (ps : List (Nat × SV)) (c L : List SV), fillT pl c ps = some L → ∀ q ∈ ps, q.2.known = true := by
  intro ps
  induction ps with
  | nil => intro c L _ q hq; cases hq
  | cons q0 ps ih =>
    obtain ⟨i0, v0⟩ := q0
    intro c L hf q hq
    unfold fillT at hf
    split at hf
    · rename_i hv
      split at hf
      · cases hq with
        | head => exact knownOf fun e => by simp only at e; rw [e] at hv; cases hv
        | tail _ hq => exact ih _ _ hf q hq
      · cases hf
    · cases hf

theorem convI_sound {t : TypeId} {x : Int} (hτ : TysOK P τ) (h : convI (τ t) x H n κ) : ∃ k, P.underlying t = some (.int k) ∧ ∃ v : SV, v.wf n ∧ v.den B = .int k (k.wrap x) ∧ κ v H n := by
  have hk := (hτ t).kd
  unfold convI at h
  split at h
  · rename_i e
    rw [e] at hk
    exact ⟨.i64, hk, .int x, trivial, by rw [wrap_in h.1]; rfl, h.2⟩
  · rename_i k e
    rw [e] at hk
    exact ⟨k, hk, .lit (.int k (k.wrap x)), trivial, rfl, h⟩
  · exact h.elim
theorem conv_sound {s t : TypeId} {v : SV} (hτ : TysOK P τ) (h : convVC (τ s) (τ t) v H n κ) : PureRes P B H n (do pure (.value (← convert s t (v.den B)))) κ := by
  unfold convVC at h
  split at h
  · obtain ⟨h0, h⟩ := h
    obtain ⟨d, hu, _⟩ := und_sca hτ h0
    obtain ⟨k, hk, v, hv, hd, hκ⟩ := convI_sound (B := B) hτ h
    exact .of v hv hκ fun w _ => by simp [convert, run_underlying hu, run_underlying hk, Conv.intToInt, SV.den, hd]
  · obtain ⟨h0, h⟩ := h
    obtain ⟨d, hu, _⟩ := und_sca hτ h0
    obtain ⟨k, hk, v, hv, hd, hκ⟩ := convI_sound (B := B) hτ h
    exact .of v hv hκ fun w _ => by simp [convert, run_underlying hu, run_underlying hk, Conv.intToInt, SV.den, hd]
  · exact h.elim
theorem pure_sound {nw mw : Bool} {o : Oper} {S : Env} {N : Nat} {a : Act} (hτ : TysOK P τ) (hS : SR B N S a) (hwS : swf n S) (hwH : hwf n H) (h : pureVC P τ nw mw o.op S H n κ) :
    PureRes P B H n (execOp a.eval o) κ := by
  unfold execOp
  cases ho : o.op <;> simp only [ho, pureVC] at h ⊢ <;> (try exact h.elim)
  case move x => exact ⟨ev S x, a.eval x, ev_wf hwS x, ev_den hS x, h, fun w _ => rfl⟩
  case assign x => exact ⟨ev S x, a.eval x, ev_wf hwS x, ev_den hS x, h, fun w _ => rfl⟩
  case pick c x y =>
    unfold pickVC at h
    split at h
    · rename_i b hb
      have hc := ev_den hS c (by rw [hb]; rfl)
      rw [hb] at hc
      cases b with
      | true => exact ⟨ev S x, a.eval x, ev_wf hwS x, ev_den hS x, h.1 rfl, fun w _ => by simp [hc, SV.den, asBool]⟩
      | false => exact ⟨ev S y, a.eval y, ev_wf hwS y, ev_den hS y, h.2 rfl, fun w _ => by simp [hc, SV.den, asBool]⟩
    · exact h.elim
  case load t x =>
    have hk : (ev S x).known = true := knownOf fun e => by rw [e] at h; exact h
    rw [ev_den hS x hk]
    exact load_sound hτ hwH h
  case binOp op t x y yt =>
    have hk : (ev S x).known = true ∧ (ev S y).known = true := by
      unfold binVC at h
      split at h <;> first | exact h.elim | (rename_i e1 e2; rw [e1, e2]; exact ⟨rfl, rfl⟩)
    rw [ev_den hS x hk.1, ev_den hS y hk.2]
    exact bin_sound hτ h
  case unOp op t x =>
    unfold unVC at h
    split at h
    · rename_i b hb
      have hc := ev_den hS x (by rw [hb]; rfl)
      rw [hb] at hc
      rw [hc]
      exact .of (.bool (!b)) trivial h fun w _ => by simp [SV.den, Op.unary]
    · rename_i z hb
      have hc := ev_den hS x (by rw [hb]; rfl)
      rw [hb] at hc
      rw [hc]
      exact ar_sound h fun w => by simp [SV.den, Op.unary, Op.intArith]
    · exact h.elim
  case convert s t x =>
    have hk : (ev S x).known = true := by
      unfold convVC at h
      split at h <;> first | exact h.elim | (rename_i e1; rw [e1]; rfl)
    rw [ev_den hS x hk]
    exact conv_sound hτ h
  case extract x i =>
    have hk : (ev S x).known = true := knownOf fun e => by rw [e] at h; exact h
    rw [ev_den hS x hk]
    exact extract_sound (ev_wf hwS x) h
  case makeFunc fn first caps =>
    unfold makeFuncVC at h
    split at h
    · rename_i f
      obtain ⟨rfl, hk, h⟩ := h
      have hk' : ∀ x ∈ caps.toList, (ev S x).known = true := fun x hx => by
        have := List.all_eq_true.1 hk (ev S x) (List.mem_map.2 ⟨x, hx, rfl⟩)
        exact this
      have hm := map_eval hS hk'
      refine .of (.fn f (caps.toList.map (ev S))) ?_ h fun w _ => ?_
      · simp only [SV.wf, wfL_iff]
        intro v hv
        obtain ⟨x, _, rfl⟩ := List.mem_map.1 hv
        exact ev_wf hwS x
      · have : caps.map a.eval = ((caps.toList.map (ev S)).map (SV.den B)).toArray := by
          rw [← hm]; apply Array.ext'; simp
        simp only [Instr.makeFunc, SV.den, denL_map]
        simp [this]
    · exact h.elim
  case fieldAddr t x f =>
    have hk : (ev S x).known = true := knownOf fun e => by rw [e] at h; unfold fieldAddrVC at h; split at h <;> first | exact h | (rename_i e; cases e)
    rw [ev_den hS x hk]
    exact fieldAddr_sound hτ (ev_wf hwS x) h
  case field t x f =>
    have hk : (ev S x).known = true := knownOf fun e => by rw [e] at h; unfold fieldVC at h; split at h <;> first | exact h | (rename_i e; cases e)
    rw [ev_den hS x hk]
    exact field_sound hτ (ev_wf hwS x) h
  case nilCheck x =>
    have hk : (ev S x).known = true := knownOf fun e => by rw [e] at h; exact h
    rw [ev_den hS x hk]
    unfold nilCheckVC at h
    split at h
    · rename_i b off he
      have hw := ev_wf hwS x
      rw [he] at hw
      rw [he]; exact .of (.ptr b off) hw h fun w _ => rfl
    · exact h.elim
  case indexAddr t x i =>
    have hk : (ev S x).known = true ∧ (ev S i).known = true := by
      unfold indexAddrVC at h
      split at h <;> first | exact h.elim | (rename_i e1 e2 e3; rw [e2, e3]; exact ⟨rfl, rfl⟩)
    rw [ev_den hS x hk.1, ev_den hS i hk.2]
    exact indexAddr_sound hτ (ev_wf hwS x) h
  case index t x i =>
    have hk : (ev S x).known = true ∧ (ev S i).known = true := by
      unfold indexVC at h
      split at h <;> first | exact h.elim | (rename_i e1 e2 e3; rw [e2, e3]; exact ⟨rfl, rfl⟩)
    rw [ev_den hS x hk.1, ev_den hS i hk.2]
    exact index_sound hτ h
  case lookup t x i ok =>
    have hk : (ev S x).known = true ∧ (ev S i).known = true := by
      unfold lookupVC at h
      split at h <;> first | exact h.elim | (rename_i e1 e2 e3; rw [e2, e3]; exact ⟨rfl, rfl⟩)
    rw [ev_den hS x hk.1, ev_den hS i hk.2]
    exact lookup_sound hτ h
  case slice t x lo hi mx =>
    obtain ⟨hm, h⟩ := h
    have hmx : mx = none := by cases mx <;> simp_all
    subst hmx
    have hk : (ev S x).known = true := knownOf fun e => by rw [e] at h; unfold sliceVC at h; split at h <;> first | exact h | (rename_i e; cases e)
    have hb : ∀ (o : Option Operand) d hh κ', bndVC (o.map (ev S)) d hh κ' → o.map a.eval = (o.map (ev S)).map (SV.den B) := by
      intro o d hh κ' h'
      cases o with
      | none => rfl
      | some y =>
        have hy : (ev S y).known = true := knownOf fun e => by
          unfold bndVC at h'
          simp only [Option.map_some, e] at h'
        simp [ev_den hS y hy]
    have hb2 : hi.map a.eval = (hi.map (ev S)).map (SV.den B) ∧ lo.map a.eval = (lo.map (ev S)).map (SV.den B) := by
      unfold sliceVC at h
      split at h
      · have h2 := h.2; obtain ⟨l, h3, _⟩ := bnd_sound (B := B) h2; exact ⟨hb _ _ _ _ h2, hb _ _ _ _ h3⟩
      · have h2 := h.2; obtain ⟨l, h3, _⟩ := bnd_sound (B := B) h2; exact ⟨hb _ _ _ _ h2, hb _ _ _ _ h3⟩
      · have h2 := h.2; obtain ⟨l, h3, _⟩ := bnd_sound (B := B) h2; exact ⟨hb _ _ _ _ h2, hb _ _ _ _ h3⟩
      · exact h.elim
    rw [ev_den hS x hk, hb2.1, hb2.2]
    exact slice_sound hτ (ev_wf hwS x) h
  case build t parts =>
    have hk : ∀ q ∈ (parts.toList.map fun p => (p.1, ev S p.2)), q.2.known = true := by
      unfold buildVC at h
      split at h
      · have h := h.2
        split at h
        · rename_i hL; exact fillI_known _ _ _ hL
        · exact h.elim
      · have h := h.2
        split at h
        · rename_i hL; exact fillI_known _ _ _ hL
        · exact h.elim
      · have h := h.2.2.2
        split at h
        · rename_i hL; exact fillT_known _ _ _ hL
        · exact h.elim
      · exact h.elim
    have he : (parts.map fun (x : Nat × Operand) => (x.1, a.eval x.2)) = ((parts.toList.map fun p => (p.1, ev S p.2)).map fun p => (p.1, p.2.den B)).toArray := by
      apply Array.ext'
      simp only [Array.toList_map, List.map_map]
      refine List.map_congr_left fun q hq => ?_
      have := hk (q.1, ev S q.2) (List.mem_map.2 ⟨q, hq, rfl⟩)
      simp [ev_den hS q.2 this]
    have := build_sound (P := P) (B := B) hτ (fun q hq => by obtain ⟨r, _, rfl⟩ := List.mem_map.1 hq; exact ev_wf hwS r.2) h
    rw [← he] at this
    exact this
  case call c =>
    split at h
    · rename_i b hb
      obtain ⟨hk, h⟩ := h
      have hk' : ∀ x ∈ c.args.toList, (ev S x).known = true := fun x hx => List.all_eq_true.1 hk (ev S x) (List.mem_map.2 ⟨x, hx, rfl⟩)
      have hm : c.args.map a.eval = ((c.args.toList.map (ev S)).map (SV.den B)).toArray := by
        rw [← map_eval hS hk']; apply Array.ext'; simp
      generalize c.args.toList.map (ev S) = vs at h hm
      simp only [resolve, hb]
      unfold builtinVC at h
      split at h
      · split at h
        · rename_i t x ht
          obtain ⟨v, xx, h1, h2, h3, h4⟩ := len_sound (P := P) (B := B) hτ h c.argTypes o.type ht
          refine ⟨v, xx, h1, h2, h3, fun w hw => ?_⟩
          have h5 := h4 w hw
          simp only [Sem.run_bind] at h5
          simp [hm, invoke, builtin]
          exact h5
        · exact h.elim
      · unfold mmVC at h
        split at h
        · rename_i x y
          refine .of (.int _) trivial h fun w _ => ?_
          simp only [List.map_cons, List.map_nil, SV.den] at hm
          have h1 := run_min_int2 (P := P) w c.argTypes o.type .i64 .i64 x y
          simp [hm, invoke, builtin, h1, SV.den]
          omega
        · exact h.elim
      · unfold mmVC at h
        split at h
        · rename_i x y
          refine .of (.int _) trivial h fun w _ => ?_
          simp only [List.map_cons, List.map_nil, SV.den] at hm
          have h1 := run_max_int2 (P := P) w c.argTypes o.type .i64 .i64 x y
          simp [hm, invoke, builtin, h1, SV.den]
          omega
        · exact h.elim
      · exact h.elim
    · exact h.elim

end
end Go.Proofs.Ytckcojgfgcjamaa
set_option maxRecDepth 100000
set_option linter.unusedSimpArgs false
set_option linter.unusedVariables false
namespace Go.Proofs.Ytckcojgfgcjamaa
open Go Go.RowKit

/-- Blocks outside M stay as they are. -/
structure Kept (M : Nat → Prop) (w w' : World) : Prop where
  os : w'.os = w.os
  tape : w'.tape = w.tape
  output : w'.output = w.output
  size : w.heap.size ≤ w'.heap.size
  block : ∀ i, i < w.heap.size → ¬ M i → w'.heap[i]? = w.heap[i]?
  drawn : w.drawn ≤ w'.drawn
/-- As the kit's; and no draw is taken back. -/
structure Bel (B : Nat) (w w' : World) : Prop extends Go.RowKit.Below B w w' where
  drawn : w.drawn ≤ w'.drawn
theorem Bel.refl (B : Nat) (w : World) : Bel B w w := ⟨Go.RowKit.Below.refl B w, Nat.le_refl _⟩
theorem Kept.refl (M : Nat → Prop) (w : World) : Kept M w w := ⟨rfl, rfl, rfl, Nat.le_refl _, fun _ _ _ => rfl, Nat.le_refl _⟩
theorem Kept.trans {M : Nat → Prop} {a b c : World} (h : Kept M a b) (k : Kept M b c) : Kept M a c :=
  ⟨k.os.trans h.os, k.tape.trans h.tape, k.output.trans h.output, Nat.le_trans h.size k.size, fun i hi hM => (k.block i (Nat.lt_of_lt_of_le hi h.size) hM).trans (h.block i hi hM), Nat.le_trans h.drawn k.drawn⟩
theorem Kept.of_below {M : Nat → Prop} {w w' : World} (h : Bel w.heap.size w w') : Kept M w w' :=
  ⟨h.os, h.tape, h.output, h.size, fun i hi _ => h.block i hi, h.drawn⟩
theorem Kept.below {M : Nat → Prop} {w w' : World} (h : Kept M w w') (hM : ∀ i, i < w.heap.size → ¬ M i) : Bel w.heap.size w w' :=
  ⟨⟨h.os, h.tape, h.output, h.size, fun i hi => h.block i hi (hM i hi)⟩, h.drawn⟩
theorem Kept.drew {M : Nat → Prop} (w : World) : Kept M w { w with drawn := w.drawn + 1 } := ⟨rfl, rfl, rfl, Nat.le_refl _, fun _ _ _ => rfl, Nat.le_succ _⟩

def Own (M : Nat → Prop) (m : Nat) (B : Nat → Nat) (H : Heap) : Prop := ∀ k o, hget H k = some o → o.live = true → m ≤ k → M (B k)

theorem HR.of_below {B : Nat → Nat} {H : Heap} {w w' : World} (h : HR B H w) (hb : Bel w.heap.size w w') : HR B H w' :=
  ⟨fun k o hl hk => by
    have h1 := h.at_ k o hl hk
    exact SObj.sat_heap (hb.block _ (SObj.sat_lt h1)) h1, h.inj⟩
theorem HR.lt {B : Nat → Nat} {H : Heap} {w : World} (h : HR B H w) {k : Nat} {o : SObj} (hl : hget H k = some o) (hk : o.live = true) : B k < w.heap.size :=
  SObj.sat_lt (h.at_ k o hl hk)

def upd (B : Nat → Nat) (n id : Nat) : Nat → Nat := fun k => if k = n then id else B k
theorem upd_lt (B : Nat → Nat) (n id : Nat) : ∀ k, k < n → upd B n id k = B k := fun k hk => by simp [upd]; omega
theorem upd_self (B : Nat → Nat) (n id : Nat) : upd B n id n = id := by simp [upd]

theorem hget_cons (k b : Nat) (o : SObj) (H : Heap) : hget ((b, o) :: H) k = if k = b then some o else hget H k := by
  unfold hget
  rw [List.lookup_cons]
  by_cases h : k = b
  · simp [h]
  · have : (k == b) = false := by simpa using h
    simp [h, this]

/-- A new block. -/
theorem HR.new {B : Nat → Nat} {H : Heap} {n : Nat} {w : World} {o : SObj} (h : HR B H w) (hw : hwf n H) (ho : o.live = true) (hfl : o.full = true) (hwo : o.wf n) :
    HR (upd B n w.heap.size) ((n, o) :: H) (w.alloc (o.den B)) := by
  have hag := upd_lt B n w.heap.size
  refine ⟨fun k o' hl hk => ?_, fun k j o1 o2 h1 h2 h3 h4 he => ?_⟩
  · rw [hget_cons] at hl
    split at hl
    · rename_i hkn
      subst hkn
      cases hl
      rw [upd_self]
      exact SObj.sat_of_den hfl (by rw [SObj.den_congr hag o hwo]; exact heap_alloc_new w _)
    · have hkn := (hw k o' hl).1
      rw [hag k hkn]
      exact SObj.sat_congr hag o' (hw k o' hl).2 (SObj.sat_heap (Below.heap_alloc w _ _ (h.lt hl hk)) (h.at_ k o' hl hk))
  · rw [hget_cons] at h1 h3
    split at h1
    · rename_i hk
      split at h3
      · rename_i hj; omega
      · subst hk
        rw [upd_self, hag j (hw j o2 h3).1] at he
        have := h.lt h3 h4
        omega
    · split at h3
      · rename_i hj
        subst hj
        rw [upd_self, hag k (hw k o1 h1).1] at he
        have := h.lt h1 h2
        omega
      · rw [hag k (hw k o1 h1).1, hag j (hw j o2 h3).1] at he
        exact h.inj k j o1 o2 h1 h2 h3 h4 he
theorem hwf_cons {n : Nat} {H : Heap} {b : Nat} {o : SObj} (hw : hwf n H) (hb : b < n) (ho : o.wf n) : hwf n ((b, o) :: H) := by
  intro k o' hl
  rw [hget_cons] at hl
  split at hl
  · rename_i hk; subst hk; cases hl; exact ⟨hb, ho⟩
  · exact hw k o' hl
theorem Own.new {M : Nat → Prop} {m n : Nat} {B : Nat → Nat} {H : Heap} {o : SObj} {id : Nat} (h : Own M m B H) (hw : hwf n H) (hM : M id) : Own M m (upd B n id) ((n, o) :: H) := by
  intro k o' hl hk hm
  rw [hget_cons] at hl
  split at hl
  · rename_i hkn; subst hkn; rw [upd_self]; exact hM
  · rw [upd_lt B n id k (hw k o' hl).1]; exact h k o' hl hk hm

/-- A block written. -/
theorem HR.set {B : Nat → Nat} {H : Heap} {w : World} {b : Nat} {o o' : SObj} {cs : Array Value} {e : Nat} (h : HR B H w) (hb : hget H b = some o) (ho : o.live = true) (c0 : Array Value) (hat : w.heap[B b]? = some (.cells c0 e (0, 0))) (hd : o'.den B = .cells cs e (0, 0)) (hf' : o'.full = true) :
    HR B ((b, o') :: H) (w.setRow (B b) cs) := by
  refine ⟨fun k o1 hl hk => ?_, fun k j o1 o2 h1 h2 h3 h4 he => ?_⟩
  · rw [hget_cons] at hl
    split at hl
    · rename_i hkb
      subst hkb
      cases hl
      exact SObj.sat_of_den hf' (by rw [hd]; exact setRow_heap w _ _ _ _ _ hat)
    · rename_i hkb
      have hne : B k ≠ B b := fun e => hkb (h.inj k b o1 o hl hk hb ho e)
      exact SObj.sat_heap (setRow_other w _ _ _ hne) (h.at_ k o1 hl hk)
  · rw [hget_cons] at h1 h3
    split at h1
    · rename_i hk
      split at h3
      · rename_i hj; omega
      · subst hk; exact h.inj k j o o2 hb ho h3 h4 he
    · split at h3
      · rename_i hj; subst hj; exact h.inj k j o1 o h1 h2 hb ho he
      · exact h.inj k j o1 o2 h1 h2 h3 h4 he
theorem Own.set {M : Nat → Prop} {m : Nat} {B : Nat → Nat} {H : Heap} {b : Nat} {o o' : SObj} (h : Own M m B H) (hb : hget H b = some o) (ho : o.live = true) : Own M m B ((b, o') :: H) := by
  intro k o1 hl hk hm
  rw [hget_cons] at hl
  split at hl
  · rename_i hkb; subst hkb; exact h k o hb ho hm
  · exact h k o1 hl hk hm
theorem Kept.setRow {M : Nat → Prop} (w : World) (g : Nat) (cs : Array Value) (hM : M g) : Kept M w (w.setRow g cs) :=
  ⟨rfl, rfl, rfl, by simp, fun i _ hi => setRow_other w g i cs (fun e => hi (e ▸ hM)), Nat.le_refl _⟩
theorem Kept.alloc {M : Nat → Prop} (w : World) (o : Obj) : Kept M w (w.alloc o) :=
  ⟨rfl, rfl, rfl, by simp, fun i hi _ => Below.heap_alloc w o i hi, Nat.le_refl _⟩

/-- What an operation with an effect comes to. -/
def EffRes (P : Program) (B : Nat → Nat) (M : Nat → Prop) (m n : Nat) (w : World) (s : Sem Next) (κ : K1) : Prop :=
  ∃ v H' n' B' x w', κ v H' n' ∧ n ≤ n' ∧ SV.wf n' v ∧ hwf n' H' ∧ (∀ k, k < n → B' k = B k) ∧ HR B' H' w' ∧ Kept M w w' ∧ Own M m B' H' ∧ (v.known = true → x = v.den B') ∧
    (s.run P w = .ok (.value x) w' ∨ (s.run P w = .ok .skip w' ∧ x = undef))

def blockOf (v : SV) (e : Nat) : Option SObj := match v with
  | .int x => some (.ints [x] e)
  | .arr L => some (.ints L e)
  | .bool b => some (.bls [b] e)
  | .barr L => some (.bls L e)
  | .ptr b o => some (.cells [.ptr b o] e)
  | .slice b o l c => some (.cells [.slice b o l c] e)
  | .nils => some (.cells [.nils] e)
  | .fn f caps => some (.cells [.fn f caps] e)
  | .mp b => some (.cells [.mp b] e)
  | .stc l => if l.all oneCellS = true then some (.cells l e) else none
  | .lit v => if litNil v = true then some (.cells [.lit v] e) else none
  | _ => none
theorem blockOf_full {v : SV} {e : Nat} {o : SObj} (h : blockOf v e = some o) : o.full = true := by
  cases v <;> simp only [blockOf] at h <;> first | (cases h; rfl) | (split at h <;> cases h; rfl) | cases h
theorem blockOf_spec {v : SV} {e : Nat} {o : SObj} (h : blockOf v e = some o) (B : Nat → Nat) : o.live = true ∧ o.den B = .cells (v.den B).cells e (0, 0) ∧ v.known = true ∧ (∀ n, v.wf n → o.wf n) := by
  cases v
  case stc l =>
    simp only [blockOf] at h
    split at h
    · cases h
      exact ⟨rfl, rfl, rfl, fun n hn => hn⟩
    · cases h
  case lit u =>
    simp only [blockOf] at h
    split at h
    · rename_i hu
      cases h
      rw [litNil_eq hu]
      exact ⟨rfl, by simp [SObj.den, SV.den, Value.cells, denL], rfl, fun n _ => by simp [SObj.wf, wfL, SV.wf]⟩
    · cases h
  all_goals (simp only [blockOf] at h; first | (cases h; done) | (cases h; refine ⟨rfl, ?_, rfl, fun n hn => ?_⟩ <;>
    first | rfl | trivial | (simp [SObj.den, SV.den, Value.cells, ints, bls, denL]; done) | (simp only [SObj.wf, wfL]; exact ⟨hn, trivial⟩)))
def newVC (v : SV) (e : Nat) (H : Heap) (n : Nat) (κ : K1) : Prop := match blockOf v e with
  | some o => κ (.ptr n 0) ((n, o) :: H) (n + 1)
  | none => False

def storeB (d : TyD) (o : Option SObj) (b off : Nat) (v : SV) (H : Heap) (n : Nat) (κ : K1) : Prop := match o with
  | some (.ints L e) => match v with
    | .int x => d.size = 1 ∧ off < L.length ∧ κ .und ((b, .ints (L.set off x) e) :: H) n
    | .arr M => M.length = d.size ∧ off + M.length ≤ L.length ∧ κ .und ((b, .ints (L.take off ++ M ++ L.drop (off + M.length)) e) :: H) n
    | _ => False
  | some (.bls L e) => match v with
    | .bool x => d.size = 1 ∧ off < L.length ∧ κ .und ((b, .bls (L.set off x) e) :: H) n
    | .barr M => M.length = d.size ∧ off + M.length ≤ L.length ∧ κ .und ((b, .bls (L.take off ++ M ++ L.drop (off + M.length)) e) :: H) n
    | _ => False
  | some (.cells l e) => match v with
    | .stc M => M.all oneCellS = true ∧ M.length = d.size ∧ off + M.length ≤ l.length ∧ κ .und ((b, .cells (l.take off ++ M ++ l.drop (off + M.length)) e) :: H) n
    | v => oneCellS v = true ∧ d.size = 1 ∧ off < l.length ∧ κ .und ((b, .cells (l.set off v) e) :: H) n
  | _ => False
def storeVC (m : Nat) (d : TyD) (a v : SV) (H : Heap) (n : Nat) (κ : K1) : Prop := match a with
  | .ptr b off => m ≤ b ∧ d.k ≠ .other ∧ storeB d (hget H b) b off v H n κ
  | _ => False
def isZ (z : SV) (s : Nat) : Bool := match z with
  | .int 0 => s == 1
  | .arr L => L == List.replicate s 0
  | _ => false
def buildSliceVC (τ : Tys) (d : TyD) (len : Nat) (parts : List (Nat × SV)) (H : Heap) (n : Nat) (κ : K1) : Prop := match d.k with
  | .sl e => (τ e).k ≠ .other ∧ isZ (τ e).z (τ e).size = true ∧ 0 < (τ e).size ∧ len * (τ e).size ≤ 16777216 ∧
    match fillI (fun i => some (i * (τ e).size, (τ e).size)) (List.replicate (len * (τ e).size) 0) parts with
    | some L => κ (.slice n 0 len len) ((n, .ints L e) :: H) (n + 1)
    | none => False
  | _ => False
def srcVC (es : Nat) (x : SV) (H : Heap) (κ : List Int → Nat → Prop) : Prop := match x with
  | .slice b off len _ => match hget H b with
    | some (.ints L _) => 0 < len ∧ off + len * es ≤ L.length ∧ κ ((L.drop off).take (len * es)) len
    | _ => False
  | _ => False
/-- Nothing to append. -/
def srcE : SV → Bool
  | .slice _ _ 0 _ => true
  | .nils => true
  | _ => false
def keepVC (s : SV) (H : Heap) (n : Nat) (κ : K1) : Prop := match s with
  | .slice b 0 len cap => len ≤ cap ∧ κ (.slice b 0 len cap) H n
  | .nils => κ .nils H n
  | _ => False
def appendVC (τ : Tys) (m : Nat) (d : TyD) (s x : SV) (H : Heap) (n : Nat) (κ : K1) : Prop := match d.k with
  | .sl e => (τ e).k ≠ .other ∧ isZ (τ e).z (τ e).size = true ∧ 0 < (τ e).size ∧ match srcE x with
   | true => keepVC s H n κ
   | false => match s with
    | .nils => srcVC (τ e).size x H fun news k => k * (τ e).bytes ≤ 140737488355328 ∧ k ≤ 9223372036854775807 ∧
        ∀ (junk : List Int) (cap : Nat), junk.length + k * (τ e).size = cap * (τ e).size → κ (.slice n 0 k cap) ((n, .ints (news ++ junk) e) :: H) (n + 1)
    | .slice b 0 len cap => match hget H b with
      | some (.ints L e') => m ≤ b ∧ e' = e ∧ L.length = cap * (τ e).size ∧ len ≤ cap ∧ srcVC (τ e).size x H fun news k => (len + k) * (τ e).bytes ≤ 140737488355328 ∧ len + k ≤ 9223372036854775807 ∧
          ∀ (junk : List Int) (cap' : Nat), junk.length + (len + k) * (τ e).size = cap' * (τ e).size →
            κ (.slice n 0 (len + k) cap') ((n, .ints (L.take (len * (τ e).size) ++ news ++ junk) e) :: (b, .dead) :: H) (n + 1)
      | _ => False
    | _ => False
  | _ => False
def makeSliceVC (τ : Tys) (d : TyD) (l c : SV) (H : Heap) (n : Nat) (κ : K1) : Prop := match d.k, l, c with
  | .sl e, .int x, .int y => (τ e).k ≠ .other ∧ 0 < (τ e).size ∧ 0 ≤ x ∧ x ≤ y ∧ y ≤ 9223372036854775807 ∧ (τ e).bytes * y ≤ 140737488355328 ∧ match (τ e).z with
    | .nils => (τ e).size = 1 ∧ κ (.slice n 0 x.toNat y.toNat) ((n, .cells (List.replicate y.toNat .nils) e) :: H) (n + 1)
    | z => isZ z (τ e).size = true ∧ κ (.slice n 0 x.toNat y.toNat) ((n, .ints (List.replicate (y.toNat * (τ e).size) 0) e) :: H) (n + 1)
  | _, _, _ => False
def clearVC (τ : Tys) (m : Nat) (d : TyD) (s : SV) (H : Heap) (n : Nat) (κ : K1) : Prop := match d.k with
  | .sl e => (τ e).k ≠ .other ∧ isZ (τ e).z (τ e).size = true ∧ 0 < (τ e).size ∧ match s with
    | .slice b off len _ => match hget H b with
      | some (.ints L e') => m ≤ b ∧ 0 < len ∧ off + len * (τ e).size ≤ L.length ∧ κ (.tup []) ((b, .ints (L.take off ++ List.replicate (len * (τ e).size) 0 ++ L.drop (off + len * (τ e).size)) e') :: H) n
      | _ => False
    | _ => False
  | _ => False
def updB (P : Program) (k : Nat) (K : List Int) (b : Nat) (o : Option SObj) (v : SV) (H : Heap) (n : Nat) (κ : K1) : Prop := match o with
  | some (.mp bv l) => KeyI P k K.length ∧ keysOK l K.length ∧ match bv, v with
    | true, .bool x => κ .und ((b, .mp true (mset l K (if x then 1 else 0))) :: H) n
    | false, .int x => κ .und ((b, .mp false (mset l K x)) :: H) n
    | _, _ => False
  | _ => False
def mapUpdateVC (P : Program) (m : Nat) (d : TyD) (x i v : SV) (H : Heap) (n : Nat) (κ : K1) : Prop := match d.k, x, i with
  | .mp k _, .mp b, .arr K => m ≤ b ∧ updB P k K b (hget H b) v H n κ
  | _, _, _ => False
def makeMapVC (τ : Tys) (d : TyD) (H : Heap) (n : Nat) (κ : K1) : Prop := match d.k with
  | .mp _ e => match (τ e).k with
    | .bool => κ (.mp n) ((n, .mp true []) :: H) (n + 1)
    | .int => κ (.mp n) ((n, .mp false []) :: H) (n + 1)
    | _ => False
  | _ => False
/-- A map's size told in advance. -/
def hintVC (S : Env) (r : Option Operand) : Prop := match r with
  | none => True
  | some x => match ev S x with
    | .int _ => True
    | _ => False
def effVC (P : Program) (τ : Tys) (m : Nat) (op : Op) (S : Env) (H : Heap) (n : Nat) (κ : K1) : Prop := match op with
  | .alloc e => (τ e).k ≠ .other ∧ flat (τ e).z = true ∧ newVC (τ e).z e H n κ
  | .box e x => newVC (ev S x) e H n κ
  | .store t a x => storeVC m (τ t) (ev S a) (ev S x) H n κ
  | .buildSlice t len parts => buildSliceVC τ (τ t) len (parts.toList.map fun p => (p.1, ev S p.2)) H n κ
  | .makeSlice t l c => makeSliceVC τ (τ t) (ev S l) (ev S c) H n κ
  | .makeMap t r => hintVC S r ∧ makeMapVC τ (τ t) H n κ
  | .mapUpdate t x i v => mapUpdateVC P m (τ t) (ev S x) (ev S i) (ev S v) H n κ
  | .insert t x i v => mapUpdateVC P m (τ t) (ev S x) (ev S i) (ev S v) H n κ
  | .call c => match c.callee with
    | .builtin .append => match c.args.toList.map (ev S), c.argTypes.toList with
      | [s, x], [t, u] => t = u ∧ appendVC τ m (τ t) s x H n κ
      | _, _ => False
    | .builtin .clear => match c.args.toList.map (ev S), c.argTypes.toList with
      | [s], [t] => clearVC τ m (τ t) s H n κ
      | _, _ => False
    | _ => False
  | _ => False

section
variable {P : Program} {τ : Tys} {B : Nat → Nat} {M : Nat → Prop} {m : Nat} {H : Heap} {n : Nat} {κ : K1} {w : World}

theorem new_sound {v : SV} {e : Nat} {s : Sem Next} (hH : HR B H w) (hw : hwf n H) (hown : Own M m B H) (hM : M w.heap.size) (hv : v.wf n) (h : newVC v e H n κ)
    (hr : s.run P w = .ok (.value (.pointer (some ⟨w.heap.size, 0, none⟩))) (w.alloc (.cells (v.den B).cells e))) : EffRes P B M m n w s κ := by
  unfold newVC at h
  split at h
  · rename_i o ho
    obtain ⟨h1, h2, h3, h4⟩ := blockOf_spec ho B
    refine ⟨.ptr n 0, _, _, upd B n w.heap.size, .pointer (some ⟨w.heap.size, 0, none⟩), _, h, by omega, by simp [SV.wf], hwf_cons (hwf_mono (by omega) hw) (by omega) (SObj.wf_mono (by omega) o (h4 n hv)), upd_lt _ _ _, HR.new hH hw h1 (blockOf_full ho) (h4 n hv), Kept.alloc _ _, Own.new hown hw hM, fun _ => ?_, .inl ?_⟩
    · simp [SV.den, upd_self]
    · rw [h2]; exact hr
  · exact h.elim

theorem run_storeAt {t : TypeId} {a : Nat} {off e : Nat} {x : Value} {c : Array Value} (hτ : TysOK P τ) (hk : (τ t).k ≠ .other) (hb : w.heap[a]? = some (.cells c e (0, 0)))
    (hs : x.cells.size = (τ t).size) (hl : off + x.cells.size ≤ c.size) (h1 : ∀ v ∈ x.cells.toList, v.oneCell' = true) :
    (Instr.storeAt t (.pointer (some ⟨a, off, none⟩)) x).run P w = .ok () (w.setRow a (c.toList.take off ++ x.cells.toList ++ c.toList.drop (off + x.cells.size)).toArray) := by
  have := run_storeCells_at P a off e x.cells.toList 0 c w hb (by simpa using hl) h1
  simp only [Nat.add_zero, Array.length_toList] at this
  simp [Instr.storeAt, Instr.sureAddr, storeVar, run_info hτ hk, hs]
  simpa [hs] using this

theorem set_splice {α : Type} (L : List α) (off : Nat) (x : α) (h : off < L.length) : L.take off ++ [x] ++ L.drop (off + 1) = L.set off x := by
  rw [List.set_eq_take_append_cons_drop, if_pos h]; simp

theorem oneCell_ints (L : List Int) : ∀ v ∈ (ints L).toList, v.oneCell' = true := by
  intro v hv
  simp at hv
  obtain ⟨x, _, rfl⟩ := hv
  rfl
theorem oneCell_bls (L : List Bool) : ∀ v ∈ (bls L).toList, v.oneCell' = true := by
  intro v hv
  simp at hv
  rcases hv with ⟨_, rfl⟩ | ⟨_, rfl⟩ <;> rfl

theorem store_sound {t : TypeId} {a v : SV} (hτ : TysOK P τ) (hH : HR B H w) (hw : hwf n H) (hown : Own M m B H) (hv : v.wf n) (h : storeVC m (τ t) a v H n κ) :
    EffRes P B M m n w (do Instr.storeAt t (a.den B) (v.den B); pure .skip) κ := by
  unfold storeVC at h
  split at h
  · rename_i b off
    obtain ⟨hm, hko, h⟩ := h
    have fin : ∀ (o o' : SObj) (c0 cs : Array Value) (e : Nat), hget H b = some o → o.live = true → w.heap[B b]? = some (.cells c0 e (0, 0)) → o'.den B = .cells cs e (0, 0) → o'.full = true → o'.wf n →
        (Instr.storeAt t (SV.den B (.ptr b off)) (v.den B)).run P w = .ok () (w.setRow (B b) cs) → κ .und ((b, o') :: H) n → EffRes P B M m n w (do Instr.storeAt t (SV.den B (.ptr b off)) (v.den B); pure .skip) κ := by
      intro o o' c0 cs e hg hl hd hd' hl' hwf' hr hκ
      exact ⟨.und, _, n, B, undef, _, hκ, Nat.le_refl _, trivial, hwf_cons hw (hw b o hg).1 hwf', fun _ _ => rfl, hH.set hg hl c0 hd hd' hl', Kept.setRow w _ _ (hown b o hg hl hm), hown.set hg hl, fun _ => rfl, .inr ⟨by simp [hr], rfl⟩⟩
    unfold storeB at h
    split at h
    · rename_i L e hg
      have hb := hH.at_ b _ hg rfl
      split at h
      · rename_i x
        obtain ⟨hs, hl, h⟩ := h
        refine fin _ (.ints (L.set off x) e) (ints L) (ints (L.set off x)) e hg rfl hb rfl rfl trivial ?_ h
        have := run_storeAt (P := P) (off := off) (x := .int .i64 x) hτ hko hb (by simp [hs, Value.cells]) (by simp [Value.cells]; omega) (by intro v hv; simp [Value.cells] at hv; subst hv; rfl)
        simp only [SV.den]
        rw [this]
        congr 2
        simp only [Value.cells, toList_ints, List.size_toArray, List.length_cons, List.length_nil]
        have h2 := set_splice (L.map (Value.int .i64)) off (.int .i64 x) (by simpa using hl)
        rw [Nat.zero_add, h2]
        simp [ints, List.map_set]
      · rename_i N
        obtain ⟨hs, hl, h⟩ := h
        refine fin _ (.ints (L.take off ++ N ++ L.drop (off + N.length)) e) (ints L) (ints (L.take off ++ N ++ L.drop (off + N.length))) e hg rfl hb rfl rfl trivial ?_ h
        have := run_storeAt (P := P) (off := off) (x := .agg (ints N)) hτ hko hb (by simp [hs, Value.cells]) (by simp [Value.cells]; omega) (by simpa [Value.cells] using oneCell_ints N)
        simp only [SV.den]
        rw [this]
        congr 2
        simp [Value.cells, ints, List.map_take, List.map_drop]
      · exact h.elim
    · rename_i L e hg
      have hb := hH.at_ b _ hg rfl
      split at h
      · rename_i x
        obtain ⟨hs, hl, h⟩ := h
        refine fin _ (.bls (L.set off x) e) (bls L) (bls (L.set off x)) e hg rfl hb rfl rfl trivial ?_ h
        have := run_storeAt (P := P) (off := off) (x := .bool x) hτ hko hb (by simp [hs, Value.cells]) (by simp [Value.cells]; omega) (by intro v hv; simp [Value.cells] at hv; subst hv; rfl)
        simp only [SV.den]
        rw [this]
        congr 2
        simp only [Value.cells, toList_bls, List.size_toArray, List.length_cons, List.length_nil]
        have h2 := set_splice (L.map Value.bool) off (.bool x) (by simpa using hl)
        rw [Nat.zero_add, h2]
        simp [bls, List.map_set]
      · rename_i N
        obtain ⟨hs, hl, h⟩ := h
        refine fin _ (.bls (L.take off ++ N ++ L.drop (off + N.length)) e) (bls L) (bls (L.take off ++ N ++ L.drop (off + N.length))) e hg rfl hb rfl rfl trivial ?_ h
        have := run_storeAt (P := P) (off := off) (x := .agg (bls N)) hτ hko hb (by simp [hs, Value.cells]) (by simp [Value.cells]; omega) (by simpa [Value.cells] using oneCell_bls N)
        simp only [SV.den]
        rw [this]
        congr 2
        simp [Value.cells, bls, List.map_take, List.map_drop]
      · exact h.elim
    · rename_i l e hg
      have hb := hH.at_ b _ hg rfl
      split at h
      · rename_i M
        obtain ⟨h1, hs, hl, h⟩ := h
        have hM1 : ∀ x ∈ M, oneCellS x = true := fun x hx => List.all_eq_true.1 h1 x hx
        refine fin _ (.cells (l.take off ++ M ++ l.drop (off + M.length)) e) (denL B l).toArray (denL B (l.take off ++ M ++ l.drop (off + M.length))).toArray e hg rfl hb rfl rfl ?_ ?_ h
        · simp only [SObj.wf, wfL_iff]
          intro x hx
          have hwl := (wfL_iff n l).1 (hw b _ hg).2
          rcases List.mem_append.1 hx with hx | hx
          · rcases List.mem_append.1 hx with hx | hx
            · exact hwl x (List.mem_of_mem_take hx)
            · exact (wfL_iff n M).1 (by simpa [SV.wf] using hv) x hx
          · exact hwl x (List.mem_of_mem_drop hx)
        · have := run_storeAt (P := P) (off := off) (x := .agg (denL B M).toArray) hτ hko hb (by simp [hs, Value.cells]) (by simp [Value.cells]; omega) (by
            intro x hx
            simp only [Value.cells, denL_map, List.mem_map] at hx
            obtain ⟨y, hy, rfl⟩ := hx
            exact (oneCell_den (hM1 y hy) B).2)
          simp only [SV.den] at this ⊢
          rw [this]
          congr 2
          simp [Value.cells, denL_map, List.map_take, List.map_drop]
      obtain ⟨h1, hs, hl, h⟩ := h
      have hc : (v.den B).cells = #[v.den B] ∧ (v.den B).oneCell' = true := oneCell_den h1 B
      refine fin _ (.cells (l.set off v) e) (denL B l).toArray (denL B (l.set off v)).toArray e hg rfl hb rfl rfl ?_ ?_ h
      · simp only [SObj.wf, wfL_iff]
        intro x hx
        rcases List.mem_or_eq_of_mem_set hx with hx | rfl
        · exact (wfL_iff n l).1 (hw b _ hg).2 x hx
        · exact hv
      · have := run_storeAt (P := P) (off := off) (x := v.den B) hτ hko hb (by simp [hs, hc.1]) (by simp [hc.1]; omega) (by intro x hx; rw [hc.1] at hx; simp at hx; subst hx; exact hc.2)
        simp only [SV.den] at this ⊢
        rw [this]
        congr 2
        simp only [hc.1, List.size_toArray, List.length_cons, List.length_nil]
        have h2 := set_splice (denL B l) off (v.den B) (by simpa using hl)
        rw [Nat.zero_add, h2]
        simp [denL_map, List.map_set]
    · exact h.elim
  · exact h.elim

theorem zero_of {e : TypeId} (hτ : TysOK P τ) (hk : (τ e).k ≠ .other) (hz : isZ (τ e).z (τ e).size = true) : ∃ z, (∀ w, (zeroValue e).run P w = .ok z w) ∧ z.cells = ints (List.replicate (τ e).size 0) ∧ ∀ i, P.info? e = some i → i.zero = some z := by
  obtain ⟨i, hi, hs, _, h⟩ := ty_info hτ hk
  cases hq : (τ e).z <;> simp [hq, isZ] at hz
  · rename_i x
    split at hz
    · rename_i h0; cases h0
      have hz' := h (by rw [hq]; rfl)
      rw [hq] at hz'
      simp at hz
      exact ⟨.int .i64 0, fun w => by simp [zeroValue, typeInfo, hi, hz', SV.den], by rw [hz]; rfl, fun j hj => by rw [hi] at hj; cases hj; exact hz'⟩
    · rename_i h0; cases h0
    · cases hz
  · rename_i L
    have hz' := h (by rw [hq]; rfl)
    rw [hq] at hz'
    subst hz
    exact ⟨.agg (ints (List.replicate (τ e).size 0)), fun w => by simp [zeroValue, typeInfo, hi, hz', SV.den], rfl, fun j hj => by rw [hi] at hj; cases hj; exact hz'⟩

theorem run_newRow' (e : TypeId) (cs : Array Value) (w : World) : (newRow e cs).run P w = .ok ⟨w.heap.size, 0, none⟩ (w.alloc (.cells cs e)) := rfl
theorem zeroRow (s k : Nat) (hs : 0 < s) : (Array.range (k * s)).map (fun i => (ints (List.replicate s 0))[i % (ints (List.replicate s 0)).size]!) = ints (List.replicate (k * s) 0) := by
  apply Array.ext'
  simp only [Array.toList_map, Array.toList_range, toList_ints, size_ints, List.length_replicate, List.map_replicate]
  rw [List.eq_replicate_iff]
  refine ⟨by simp, fun b hb => ?_⟩
  obtain ⟨i, _, rfl⟩ := List.mem_map.1 hb
  have hlt : i % s < s := Nat.mod_lt _ hs
  rw [getElem!_def, get_ints]
  simp [hlt]

theorem res_new {o : SObj} {v : SV} {x : Value} {s : Sem Next} (hH : HR B H w) (hw : hwf n H) (hown : Own M m B H) (hM : M w.heap.size) (ho : o.live = true) (hfl : o.full = true) (hwo : o.wf n) (hκ : κ v ((n, o) :: H) (n + 1)) (hv : SV.wf (n + 1) v)
    (hx : x = v.den (upd B n w.heap.size)) (w' : World) (hw' : w'.heap = (w.alloc (o.den B)).heap) (hk : Kept M w w') (hr : s.run P w = .ok (.value x) w') : EffRes P B M m n w s κ := by
  have h1 := HR.new hH hw ho hfl hwo
  refine ⟨v, _, _, upd B n w.heap.size, x, w', hκ, by omega, hv, hwf_cons (hwf_mono (by omega) hw) (by omega) (SObj.wf_mono (by omega) o hwo), upd_lt _ _ _, ?_, hk, Own.new hown hw hM, fun _ => hx, .inl hr⟩
  exact ⟨fun k o' hl hk' => SObj.sat_heap (by rw [hw']) (h1.at_ k o' hl hk'), h1.inj⟩

theorem buildSlice_sound {t : TypeId} {len : Nat} {parts : List (Nat × SV)} (hτ : TysOK P τ) (hH : HR B H w) (hw : hwf n H) (hown : Own M m B H) (hM : M w.heap.size) (h : buildSliceVC τ (τ t) len parts H n κ) :
    EffRes P B M m n w (do pure (.value (← Instr.buildSlice t len (parts.map fun p => (p.1, p.2.den B)).toArray))) κ := by
  unfold buildSliceVC at h
  split at h
  · rename_i e hk
    obtain ⟨h1, h2, h3, h4, h⟩ := h
    split at h
    · rename_i L hL
      obtain ⟨z, hz, hzc, _⟩ := zero_of hτ h1 h2
      have hf := fill_sound (B := B) _ _ _ hL
      refine res_new (o := .ints L e) (x := .slice (some ⟨w.heap.size, 0, none⟩) len len) hH hw hown hM rfl rfl trivial h (by simp [SV.wf]) (by simp [SV.den, upd_self]) (w.alloc (.cells (ints L) e)) rfl (Kept.alloc _ _) ?_
      have h5 : ¬ len * (τ e).size > 2 ^ 24 := by simp; omega
      have hf' : Instr.fill (fun i => some (i * (τ e).size, (τ e).size)) (ints (List.replicate (len * (τ e).size) 0)) (parts.map fun p => (p.1, p.2.den B)) = some (ints L) := hf
      by_cases h0 : len * (τ e).size = 0
      · have hr0 : (Array.range 0).map (fun i => (#[] : Array Value)[i % (#[] : Array Value).size]!) = ints (List.replicate (len * (τ e).size) 0) := by rw [h0]; simp [ints]
        rw [h0] at hr0
        rw [h0] at hf'
        have h6 : ¬ (0 > 2 ^ 24) := by simp
        simp only [Instr.buildSlice, Sem.run_bind, run_underlying (und_sl hτ hk), Result.andThen_ok, run_info hτ h1, h0, h6, if_false, if_true, Sem.run_pure, hr0, hf', run_newRow']
      · have hrow := zeroRow (τ e).size len h3
        rw [← hzc] at hrow
        simp only [Instr.buildSlice, Sem.run_bind, run_underlying (und_sl hτ hk), Result.andThen_ok, run_info hτ h1, h5, h0, if_false, Sem.run_pure, hz w, hrow, hf', run_newRow']
    · exact h.elim
  · exact h.elim

theorem zeroRowN (k : Nat) : (Array.range k).map (fun i => (#[Value.slice none 0 0])[i % (#[Value.slice none 0 0]).size]!) = (List.replicate k (Value.slice none 0 0)).toArray := by
  apply Array.ext'
  simp only [Array.toList_map, Array.toList_range, List.size_toArray, List.length_cons, List.length_nil, Nat.zero_add, Nat.mod_one]
  rw [List.eq_replicate_iff]
  refine ⟨by simp, fun b hb => ?_⟩
  obtain ⟨i, _, rfl⟩ := List.mem_map.1 hb
  rfl
theorem makeSlice_sound {t : TypeId} {l c : SV} (hτ : TysOK P τ) (hH : HR B H w) (hw : hwf n H) (hown : Own M m B H) (hM : M w.heap.size) (h : makeSliceVC τ (τ t) l c H n κ) :
    EffRes P B M m n w (do pure (.value (← Instr.makeSlice t (l.den B) (c.den B)))) κ := by
  unfold makeSliceVC at h
  split at h
  · rename_i e x y hk
    obtain ⟨h1, h3, h4, h5, h6, h7, h⟩ := h
    obtain ⟨i, hi, his, hib, hzi⟩ := ty_info hτ h1
    have wx : IntKind.i64.wrap x = x := IntWalk.i64_in x (by omega)
    have wy : IntKind.i64.wrap y = y := IntWalk.i64_in y (by omega)
    have hy0 : ¬ (y < 0) := by omega
    have hx0 : ¬ (x < 0) := by omega
    have hxy : ¬ (x > y) := by omega
    have hbig : ¬ ((τ e).bytes * y > 2 ^ 48) := by omega
    have hroom : ¬ (y.toNat * (τ e).bytes > roomBytes) := by
      unfold roomBytes
      have e1 : ((y.toNat * (τ e).bytes : Nat) : Int) = (τ e).bytes * y := by push_cast; rw [Int.toNat_of_nonneg (by omega), Int.mul_comm]
      omega
    have hti : (typeInfo e).run P w = .ok i w := by simp [typeInfo, hi]
    split at h
    · rename_i hz
      obtain ⟨hs1, h⟩ := h
      have hz1 : (zeroValue e).run P w = .ok (.slice none 0 0) w := by
        have := hzi (by rw [hz]; rfl)
        rw [hz] at this
        simp [zeroValue, typeInfo, hi, this, SV.den]
      refine res_new (o := .cells (List.replicate y.toNat .nils) e) (x := .slice (some ⟨w.heap.size, 0, none⟩) x.toNat y.toNat) hH hw hown hM rfl rfl (by simp only [SObj.wf, wfL_iff]; intro v hv; obtain rfl := (List.mem_replicate.1 hv).2; trivial) h (by simp [SV.wf]) (by simp [SV.den, upd_self]) (w.alloc (.cells (List.replicate y.toNat (Value.slice none 0 0)).toArray e)) (by simp [SObj.den, denL_map, SV.den]) (Kept.alloc _ _) ?_
      simp only [Instr.makeSlice, Sem.run_bind, run_underlying (und_sl hτ hk), Result.andThen_ok, SV.den, asInt, asIntOf, Sem.run_pure, hti, hib, wx, wy]
      simp only [hy0, hx0, hxy, hbig, decide_false, Bool.or_false, Bool.false_eq_true, if_false, askRoom, hroom, Sem.run_pure, Sem.run_bind, Result.andThen_ok, run_info hτ h1, hs1, Nat.mul_one]
      by_cases h0 : y.toNat = 0
      · have hr0 : (Array.range 0).map (fun i => (#[] : Array Value)[i % (#[] : Array Value).size]!) = (List.replicate y.toNat (Value.slice none 0 0)).toArray := by rw [h0]; simp
        rw [h0] at hr0
        simp only [h0, if_true, Sem.run_pure, Sem.run_bind, Result.andThen_ok, hr0, run_newRow']
      · have hrow := zeroRowN y.toNat
        have hcl : (Value.slice none 0 0).cells = #[Value.slice none 0 0] := rfl
        simp only [h0, if_false, Sem.run_pure, Sem.run_bind, Result.andThen_ok, hz1, hcl, hrow, run_newRow']
    obtain ⟨h2, h⟩ := h
    obtain ⟨z, hz, hzc, _⟩ := zero_of hτ h1 h2
    refine res_new (o := .ints (List.replicate (y.toNat * (τ e).size) 0) e) (x := .slice (some ⟨w.heap.size, 0, none⟩) x.toNat y.toNat) hH hw hown hM rfl rfl trivial h (by simp [SV.wf]) (by simp [SV.den, upd_self]) (w.alloc (.cells (ints (List.replicate (y.toNat * (τ e).size) 0)) e)) rfl (Kept.alloc _ _) ?_
    simp only [Instr.makeSlice, Sem.run_bind, run_underlying (und_sl hτ hk), Result.andThen_ok, SV.den, asInt, asIntOf, Sem.run_pure, hti, hib, wx, wy]
    simp only [hy0, hx0, hxy, hbig, decide_false, Bool.or_false, Bool.false_eq_true, if_false, askRoom, hroom, Sem.run_pure, Sem.run_bind, Result.andThen_ok, run_info hτ h1]
    by_cases h0 : y.toNat * (τ e).size = 0
    · have hr0 : (Array.range 0).map (fun i => (#[] : Array Value)[i % (#[] : Array Value).size]!) = ints (List.replicate (y.toNat * (τ e).size) 0) := by rw [h0]; simp [ints]
      rw [h0] at hr0
      simp only [h0, if_true, Sem.run_pure, Sem.run_bind, Result.andThen_ok, hr0, run_newRow']
    · have hrow := zeroRow (τ e).size y.toNat h3
      rw [← hzc] at hrow
      simp only [h0, if_false, Sem.run_pure, Sem.run_bind, Result.andThen_ok, hz w, hrow, run_newRow']
  · exact h.elim

theorem HR.kill {B : Nat → Nat} {H : Heap} {w : World} (h : HR B H w) (b : Nat) : HR B ((b, .dead) :: H) w := by
  refine ⟨fun k o hl hk => ?_, fun k j o1 o2 h1 h2 h3 h4 he => ?_⟩
  · rw [hget_cons] at hl
    split at hl
    · cases hl; cases hk
    · exact h.at_ k o hl hk
  · rw [hget_cons] at h1 h3
    split at h1
    · cases h1; cases h2
    · split at h3
      · cases h3; cases h4
      · exact h.inj k j o1 o2 h1 h2 h3 h4 he
theorem Own.kill {B : Nat → Nat} {H : Heap} (h : Own M m B H) (b : Nat) : Own M m B ((b, .dead) :: H) := by
  intro k o hl hk hm
  rw [hget_cons] at hl
  split at hl
  · cases hl; cases hk
  · exact h k o hl hk hm
/-- A block that goes on under a new name. -/
theorem HR.move {B : Nat → Nat} {H : Heap} {n : Nat} {w : World} {b : Nat} {o o' : SObj} {c0 cs : Array Value} {e : Nat} (h : HR B H w) (hw : hwf n H) (hb : hget H b = some o) (ho : o.live = true) (hat : w.heap[B b]? = some (.cells c0 e (0, 0))) (hd : o'.den (upd B n (B b)) = .cells cs e (0, 0)) (hf' : o'.full = true) :
    HR (upd B n (B b)) ((n, o') :: (b, .dead) :: H) (w.setRow (B b) cs) := by
  have hag := upd_lt B n (B b)
  have hbn := (hw b o hb).1
  refine ⟨fun k o1 hl hk => ?_, fun k j o1 o2 h1 h2 h3 h4 he => ?_⟩
  · rw [hget_cons] at hl
    split at hl
    · rename_i hkn; subst hkn; cases hl
      rw [upd_self]
      exact SObj.sat_of_den hf' (by rw [hd]; exact setRow_heap w _ _ _ _ _ hat)
    · rw [hget_cons] at hl
      split at hl
      · cases hl; cases hk
      · rename_i hkb
        have hkn := hw k o1 hl
        rw [hag k hkn.1]
        exact SObj.sat_congr hag o1 hkn.2 (SObj.sat_heap (setRow_other w _ _ _ (fun e => hkb (h.inj k b o1 o hl hk hb ho e))) (h.at_ k o1 hl hk))
  · rw [hget_cons] at h1 h3
    split at h1
    · rename_i hk
      split at h3
      · rename_i hj; omega
      · rw [hget_cons] at h3
        split at h3
        · cases h3; cases h4
        · rename_i hjb
          subst hk
          rw [upd_self, hag j (hw j o2 h3).1] at he
          exact absurd (h.inj j b o2 o h3 h4 hb ho he.symm) hjb
    · rw [hget_cons] at h1
      split at h1
      · cases h1; cases h2
      · rename_i hkb
        split at h3
        · rename_i hj
          subst hj
          rw [upd_self, hag k (hw k o1 h1).1] at he
          exact absurd (h.inj k b o1 o h1 h2 hb ho he) hkb
        · rw [hget_cons] at h3
          split at h3
          · cases h3; cases h4
          · rw [hag k (hw k o1 h1).1, hag j (hw j o2 h3).1] at he
            exact h.inj k j o1 o2 h1 h2 h3 h4 he

theorem src_sound {es : Nat} {x : SV} {κ' : List Int → Nat → Prop} (hH : HR B H w) (h : srcVC es x H κ') :
    ∃ (a : Addr) (k c : Nat) (news : List Int), x.den B = .slice (some a) k c ∧ 0 < k ∧ news.length = k * es ∧ κ' news k ∧ ∀ j u, (news.map (Value.int .i64))[j]? = some u → w.cell? (a.add j) = some u := by
  unfold srcVC at h
  split at h
  · rename_i b off len cap
    split at h
    · rename_i L e hg
      obtain ⟨h1, h2, h3⟩ := h
      refine ⟨⟨B b, off, none⟩, len, cap, (L.drop off).take (len * es), rfl, h1, by simp; omega, h3, fun j u hj => ?_⟩
      have hb := hH.at_ b _ hg rfl
      rw [add_addr]
      refine cell_at hb ?_
      rw [get_ints]
      have hjl : j < len * es := by
        rcases Nat.lt_or_ge j (len * es) with h | h
        · exact h
        · rw [List.getElem?_eq_none (by simp; omega)] at hj; cases hj
      rw [List.getElem?_map, List.getElem?_take, if_pos hjl, List.getElem?_drop] at hj
      exact hj
    · exact h.elim
  · exact h.elim

theorem zeroCells_ints (s k : Nat) (hs : 0 < s) : Builtin.zeroCells (ints (List.replicate s 0)) k = ints (List.replicate (k * s) 0) := by
  unfold Builtin.zeroCells
  have := zeroRow s k hs
  simpa using this

theorem append_sound {t ty : TypeId} {s x : SV} (hws : s.wf n) (hτ : TysOK P τ) (hH : HR B H w) (hw : hwf n H) (hown : Own M m B H) (hM : M w.heap.size) (h : appendVC τ m (τ t) s x H n κ) :
    EffRes P B M m n w (do pure (.value (← Builtin.append_ #[t, t] ty #[s.den B, x.den B]))) κ := by
  unfold appendVC at h
  split at h
  · rename_i e hk
    obtain ⟨h1, h2, h3, h⟩ := h
    obtain ⟨z, hz, hzc, hzi⟩ := zero_of hτ h1 h2
    obtain ⟨i, hi, his, hib, _⟩ := ty_info hτ h1
    have hzi' := hzi i hi
    have hsl := und_sl hτ hk
    cases hse : srcE x with
    | true =>
      rw [hse] at h
      have hx0 : (∃ a c, x.den B = .slice (some a) 0 c) ∨ x.den B = .slice none 0 0 := by
        unfold srcE at hse
        split at hse
        · exact .inl ⟨_, _, rfl⟩
        · exact .inr rfl
        · cases hse
      have hfc : ∀ w', (Builtin.firstCells (τ e).size 0 (x.den B)).run P w' = .ok #[] w' := fun w' => by
        rcases hx0 with ⟨a, c, e⟩ | e <;> rw [e] <;> simp [Builtin.firstCells, loadCells, loadCellsFrom]
      have hlo : ∀ w', (Builtin.lenOf (x.den B)).run P w' = .ok 0 w' := fun w' => by
        rcases hx0 with ⟨a, c, e⟩ | e <;> rw [e] <;> simp [Builtin.lenOf]
      have fin : ∀ (base : Option Addr) (len cap : Nat), len ≤ cap → (Builtin.append_ #[t, t] ty #[.slice base len cap, x.den B]).run P w = .ok (.slice base len cap) w := by
        intro base len cap hlc
        cases base <;> simp [Builtin.append_, run_underlying hsl, run_info hτ h1, hlo, hfc, hlc, storeCells]
      have h' : keepVC s H n κ := h
      clear h
      unfold keepVC at h'
      split at h'
      · rename_i b len cap
        refine ⟨.slice b 0 len cap, H, n, B, .slice (some ⟨B b, 0, none⟩) len cap, w, h'.2, Nat.le_refl _, hws, hw, fun _ _ => rfl, hH, Kept.refl _ _, hown, fun _ => rfl, .inl ?_⟩
        simp [SV.den, fin _ _ _ h'.1]
      · refine ⟨.nils, H, n, B, .slice none 0 0, w, h', Nat.le_refl _, trivial, hw, fun _ _ => rfl, hH, Kept.refl _ _, hown, fun _ => rfl, .inl ?_⟩
        simp [SV.den, fin _ _ _ (Nat.le_refl 0)]
      · exact h'.elim
    | false =>
    rw [hse] at h
    simp only at h
    split at h
    · obtain ⟨a, k, c, news, hx, hk0, hnl, ⟨h4, h5, h6⟩, hnews⟩ := src_sound hH h
      have hr := run_append_nil (P := P) w t ty e i z hsl hi hzi' a k c (news.map (Value.int .i64)) (by simp [hnl, his]) hnews hk0 (by omega) (by rw [hib]; omega)
      rw [hx]
      simp only [SV.den]
      have hc := grownCap_ge w k 0 e
      have e1 : (news.map (Value.int .i64)).toArray ++ Builtin.zeroCells z.cells (grownCap w k 0 e - k) = ints (news ++ List.replicate ((grownCap w k 0 e - k) * (τ e).size) 0) := by
        rw [hzc, zeroCells_ints _ _ h3]; simp [ints]
      rw [e1] at hr
      have hlen : (List.replicate ((grownCap w k 0 e - k) * (τ e).size) (0 : Int)).length + k * (τ e).size = grownCap w k 0 e * (τ e).size := by
        rw [List.length_replicate, ← Nat.add_mul]; congr 1; omega
      refine res_new (o := .ints (news ++ List.replicate ((grownCap w k 0 e - k) * (τ e).size) 0) e) hH hw hown hM rfl rfl trivial (x := .slice (some ⟨w.heap.size, 0, none⟩) k (grownCap w k 0 e)) (h6 _ _ hlen) (by simp [SV.wf]) (by simp [SV.den, upd_self]) (w.drew.alloc (.cells (ints (news ++ List.replicate ((grownCap w k 0 e - k) * (τ e).size) 0)) e)) rfl ((Kept.drew w).trans (Kept.alloc _ _)) (by simp [hr])
    · rename_i b len cap
      split at h
      · rename_i L e' hg
        obtain ⟨hm, rfl, hL, hlc, h⟩ := h
        obtain ⟨a, k, c, news, hx, hk0, hnl, ⟨h4, h5, h6⟩, hnews⟩ := src_sound hH h
        have hb := hH.at_ b _ hg rfl
        rw [hx]
        simp only [SV.den]
        have hpre : (L.take (len * (τ e').size)).length = len * (τ e').size := by rw [List.length_take, hL]; exact Nat.min_eq_left (Nat.mul_le_mul_right _ hlc)
        by_cases hroom : len + k ≤ cap
        · have hfit : len * (τ e').size + k * (τ e').size ≤ cap * (τ e').size := by rw [← Nat.add_mul]; exact Nat.mul_le_mul_right _ hroom
          have hr := run_append_room (P := P) w t ty e' i hsl hi (B b) len cap (ints L) hb a k c (news.map (Value.int .i64)) (by simp [hnl, his]) hnews (by intro u hu; simp at hu; obtain ⟨x, _, rfl⟩ := hu; rfl) hroom (by rw [his]; simp [hnl, hL]; exact hfit)
          have e1 : (((ints L).toList.take (len * i.size) ++ news.map (Value.int .i64) ++ (ints L).toList.drop (len * i.size + (news.map (Value.int .i64)).length)).toArray) = ints (L.take (len * (τ e').size) ++ news ++ L.drop (len * (τ e').size + k * (τ e').size)) := by
            rw [his]; simp [ints, hnl, List.map_take, List.map_drop]
          rw [e1] at hr
          have hlen : (L.drop (len * (τ e').size + k * (τ e').size)).length + (len + k) * (τ e').size = cap * (τ e').size := by
            rw [List.length_drop, hL, Nat.add_mul]; omega
          refine ⟨_, _, n + 1, upd B n (B b), .slice (some ⟨B b, 0, none⟩) (len + k) cap, _, h6 _ _ hlen, by omega, by simp [SV.wf], ?_, upd_lt _ _ _, HR.move (cs := ints (L.take (len * (τ e').size) ++ news ++ L.drop (len * (τ e').size + k * (τ e').size))) hH hw hg rfl hb rfl rfl, Kept.setRow w _ _ (hown b _ hg rfl hm), ?_, fun _ => by simp [SV.den, upd_self], .inl (by simp [hr])⟩
          · exact hwf_cons (hwf_cons (hwf_mono (by omega) hw) (by have := (hw b _ hg).1; omega) trivial) (by omega) trivial
          · exact Own.new (hown.kill b) (hwf_cons hw (hw b _ hg).1 trivial) (hown b _ hg rfl hm)
        · have holds : ∀ j u, ((L.take (len * (τ e').size)).map (Value.int .i64))[j]? = some u → w.cell? ((⟨B b, 0, none⟩ : Addr).add j) = some u := by
            intro j u hj
            rw [add_addr]
            refine cell_at hb ?_
            rw [get_ints]
            have hjl : j < len * (τ e').size := by
              rcases Nat.lt_or_ge j (len * (τ e').size) with h | h
              · exact h
              · rw [List.getElem?_eq_none (by simp; omega)] at hj; cases hj
            rw [List.getElem?_map, List.getElem?_take, if_pos hjl] at hj
            rw [Nat.zero_add]; exact hj
          have hr := run_append_grow (P := P) w t ty e' i z hsl hi hzi' ⟨B b, 0, none⟩ len cap ((L.take (len * (τ e').size)).map (Value.int .i64)) (by rw [List.length_map, hpre, his]) holds a k c (news.map (Value.int .i64)) (by simp [hnl, his]) hnews (by omega) (by omega) (by rw [hib]; exact growslice_fits (by omega) h4)
          have hc := grownCap_ge w (len + k) cap e'
          have e1 : ((L.take (len * (τ e').size)).map (Value.int .i64)).toArray ++ (news.map (Value.int .i64)).toArray ++ Builtin.zeroCells z.cells (grownCap w (len + k) cap e' - (len + k)) = ints (L.take (len * (τ e').size) ++ news ++ List.replicate ((grownCap w (len + k) cap e' - (len + k)) * (τ e').size) 0) := by
            rw [hzc, zeroCells_ints _ _ h3]; simp [ints, List.map_take]
          rw [e1] at hr
          have hlen : (List.replicate ((grownCap w (len + k) cap e' - (len + k)) * (τ e').size) (0 : Int)).length + (len + k) * (τ e').size = grownCap w (len + k) cap e' * (τ e').size := by
            rw [List.length_replicate, ← Nat.add_mul]; congr 1; omega
          refine res_new (o := .ints (L.take (len * (τ e').size) ++ news ++ List.replicate ((grownCap w (len + k) cap e' - (len + k)) * (τ e').size) 0) e') (x := .slice (some ⟨w.heap.size, 0, none⟩) (len + k) (grownCap w (len + k) cap e')) (hH.kill b) (hwf_cons hw (hw b _ hg).1 trivial) (hown.kill b) hM rfl rfl trivial (h6 _ _ hlen) (by simp [SV.wf]) (by simp [SV.den, upd_self]) (w.drew.alloc (.cells (ints (L.take (len * (τ e').size) ++ news ++ List.replicate ((grownCap w (len + k) cap e' - (len + k)) * (τ e').size) 0)) e')) rfl ((Kept.drew w).trans (Kept.alloc _ _)) (by simp [hr])
      · exact h.elim
    · exact h.elim
  · exact h.elim
theorem clear_sound {t ty : TypeId} {s : SV} (hτ : TysOK P τ) (hH : HR B H w) (hw : hwf n H) (hown : Own M m B H) (h : clearVC τ m (τ t) s H n κ) :
    EffRes P B M m n w (do pure (.value (← Builtin.clear_ #[t] ty #[s.den B]))) κ := by
  unfold clearVC at h
  split at h
  · rename_i e hk
    obtain ⟨h1, h2, h3, h⟩ := h
    split at h
    · rename_i b off len cap
      split at h
      · rename_i L e' hg
        obtain ⟨hm, h0, hl, h⟩ := h
        have hb := hH.at_ b _ hg rfl
        obtain ⟨z, hz, hzc, _⟩ := zero_of hτ h1 h2
        refine ⟨.tup [], _, n, B, .tuple #[], _, h, Nat.le_refl _, by simp [SV.wf, wfL], hwf_cons hw (hw b _ hg).1 trivial, fun _ _ => rfl, hH.set (o' := .ints (L.take off ++ List.replicate (len * (τ e).size) 0 ++ L.drop (off + len * (τ e).size)) e') hg rfl (ints L) hb rfl rfl, Kept.setRow w _ _ (hown b _ hg rfl hm), hown.set hg rfl, fun _ => by simp [SV.den, denL], .inl ?_⟩
        have hst := run_storeCells_at P (B b) off e' (ints (List.replicate (len * (τ e).size) 0)).toList 0 (ints L) w hb (by simpa using hl) (oneCell_ints _)
        simp only [Nat.add_zero, Array.length_toList] at hst
        have e1 : ((ints L).toList.take off ++ (ints (List.replicate (len * (τ e).size) 0)).toList ++ (ints L).toList.drop (off + (ints (List.replicate (len * (τ e).size) 0)).size)).toArray = ints (L.take off ++ List.replicate (len * (τ e).size) 0 ++ L.drop (off + len * (τ e).size)) := by
          simp [ints, List.map_take, List.map_drop]
        rw [e1] at hst
        obtain ⟨len', rfl⟩ : ∃ k, len = k + 1 := ⟨len - 1, by omega⟩
        simp only [Builtin.clear_, SV.den, Sem.run_bind, run_underlying (und_sl hτ hk), Result.andThen_ok, hz w, hzc, zeroCells_ints _ _ h3, hst, Sem.run_pure, List.getElem?_toArray, List.getElem?_cons_zero]
      · exact h.elim
    · exact h.elim
  · exact h.elim
/-! Maps. -/
theorem HR.setM {b : Nat} {o o' : SObj} (h : HR B H w) (hb : hget H b = some o) (ho : o.live = true) (hf' : o'.full = true) : HR B ((b, o') :: H) { w with heap := w.heap.setIfInBounds (B b) (o'.den B) } := by
  have hlt := h.lt hb ho
  refine ⟨fun k o1 hl hk => ?_, fun k j o1 o2 h1 h2 h3 h4 he => ?_⟩
  · rw [hget_cons] at hl
    split at hl
    · rename_i hkb
      subst hkb
      cases hl
      exact SObj.sat_of_den hf' (by simp [hlt])
    · rename_i hkb
      have hne : B k ≠ B b := fun e => hkb (h.inj k b o1 o hl hk hb ho e)
      exact SObj.sat_heap (by simp [Ne.symm hne]) (h.at_ k o1 hl hk)
  · rw [hget_cons] at h1 h3
    split at h1
    · rename_i hk
      split at h3
      · rename_i hj; omega
      · subst hk; exact h.inj k j o o2 hb ho h3 h4 he
    · split at h3
      · rename_i hj; subst hj; exact h.inj k j o1 o h1 h2 hb ho he
      · exact h.inj k j o1 o2 h1 h2 h3 h4 he
theorem Kept.setM {M : Nat → Prop} (w : World) (g : Nat) (o : Obj) (hM : M g) : Kept M w { w with heap := w.heap.setIfInBounds g o } :=
  ⟨rfl, rfl, rfl, by simp, fun i _ hi => by
    have : g ≠ i := fun e => hi (e ▸ hM)
    simp [this], Nat.le_refl _⟩
theorem run_setMap {w : World} {r c : Nat} {es : Array MapEntry} (o : Obj) (hb : w.heap[r]? = some (.map es c)) : (setObj r o).run P w = .ok () { w with heap := w.heap.setIfInBounds r o } := by
  simp [setObj, Sem.run, hb]
theorem makeMap_sound {t : TypeId} {r : Option Value} (hr : ∀ x, r = some x → ∃ z, x = .int .i64 z) (hτ : TysOK P τ) (hH : HR B H w) (hw : hwf n H) (hown : Own M m B H) (hM : M w.heap.size) (h : makeMapVC τ (τ t) H n κ) :
    EffRes P B M m n w (do pure (.value (← Instr.makeMap t r))) κ := by
  have fin : ∀ kk e bv, (τ t).k = .mp kk e → κ (.mp n) ((n, .mp bv []) :: H) (n + 1) → EffRes P B M m n w (do pure (.value (← Instr.makeMap t r))) κ := fun kk e bv hk h => by
    refine ⟨.mp n, _, _, upd B n w.heap.size, .map (some w.heap.size), _, h, by omega, by simp [SV.wf], hwf_cons (hwf_mono (by omega) hw) (by omega) trivial, upd_lt _ _ _, HR.new hH hw rfl rfl trivial, Kept.alloc _ _, Own.new hown hw hM, fun _ => by simp [SV.den, upd_self], .inl ?_⟩
    cases r with
    | none => simp [Instr.makeMap, SObj.den, mpE]
    | some x =>
      obtain ⟨z, rfl⟩ := hr x rfl
      simp [Instr.makeMap, run_underlying (und_mp hτ hk), asInt, asIntOf, SObj.den, mpE]
  unfold makeMapVC at h
  split at h
  · rename_i hk
    split at h
    · exact fin _ _ true hk h
    · exact fin _ _ false hk h
    · exact h.elim
  · exact h.elim
theorem mset_none {bv : Bool} {K : List Int} {x : Int} : ∀ {l : List (List Int × Int)} {i b : Nat}, mfind bv l K i = none → mpE bv (mset l K x) b = mpE bv l b ++ [⟨.agg (ints K), (mvS bv x).den (fun _ => 0), b + l.length⟩] ∧ (mset l K x).length = l.length + 1
  | [], _, b, _ => ⟨rfl, rfl⟩
  | (k, v) :: r, i, b, h => by
    unfold mfind at h
    split at h
    · cases h
    · rename_i hk
      have := mset_none (x := x) (b := b + 1) h
      simp only [mset, hk, if_false, mpE, this.1, this.2, List.length_cons, List.cons_append, true_and, and_true]
      simp only [show b + 1 + r.length = b + (r.length + 1) by omega]
theorem mset_some {bv : Bool} {K : List Int} {x : Int} : ∀ {l : List (List Int × Int)} {i b : Nat} {q : Nat × Value}, mfind bv l K i = some q → ∃ j v0, q.1 = i + j ∧ (mpE bv l b)[j]? = some ⟨.agg (ints K), v0, b + j⟩ ∧
    mpE bv (mset l K x) b = (mpE bv l b).modify j (fun e => { e with key := .agg (ints K), val := (mvS bv x).den (fun _ => 0) }) ∧ (mset l K x).length = l.length
  | [], _, _, _, h => by cases h
  | (k, v) :: r, i, b, q, h => by
    unfold mfind at h
    split at h
    · rename_i hk
      cases h
      subst hk
      refine ⟨0, (mvS bv v).den (fun _ => 0), rfl, rfl, ?_, ?_⟩
      · simp [mset, mpE]
      · simp [mset]
    · rename_i hk
      obtain ⟨j, v0, h1, h2, h3, h4⟩ := mset_some (x := x) (b := b + 1) h
      refine ⟨j + 1, v0, by omega, ?_, ?_, ?_⟩
      · simp only [mpE, List.getElem?_cons_succ, h2]
        congr 2
        omega
      · simp [mset, hk, mpE, h3]
      · simp [mset, hk, h4]
theorem sameBits_ints (K : List Int) : Instr.sameBits 10000 (.agg (ints K)) (.agg (ints K)) = true := by
  show Instr.sameBits (9999 + 1) (.agg (ints K)) (.agg (ints K)) = true
  simp only [Instr.sameBits, beq_self_eq_true, Bool.true_and, List.all_eq_true]
  intro p hp
  obtain ⟨i, hi, e⟩ := List.getElem_of_mem hp
  rw [List.getElem_zip] at e
  rw [← e]
  simp [Instr.sameBits]
theorem mapUpdate_sound {t : TypeId} {x i v : SV} (hτ : TysOK P τ) (hH : HR B H w) (hw : hwf n H) (hown : Own M m B H) (h : mapUpdateVC P m (τ t) x i v H n κ) :
    EffRes P B M m n w (do Instr.mapUpdate t (x.den B) (i.den B) (v.den B); pure .skip) κ := by
  unfold mapUpdateVC at h
  split at h
  · rename_i k e b K hk
    obtain ⟨hm, h⟩ := h
    unfold updB at h
    split at h
    · rename_i bv l hb
      obtain ⟨hK, hl, h⟩ := h
      have h1 := hH.at_ b _ hb rfl
      simp only [SObj.sat, SObj.den] at h1
      have hc := hK.2.2 K rfl
      have hf := run_find hK bv w l 0 0 hl
      have fin : ∀ z : Int, κ .und ((b, .mp bv (mset l K z)) :: H) n → v.den B = (mvS bv z).den (fun _ => 0) → EffRes P B M m n w (do Instr.mapUpdate t ((SV.mp b).den B) ((SV.arr K).den B) (v.den B); pure .skip) κ := by
        intro z hκ hv
        refine ⟨.und, _, n, B, undef, _, hκ, Nat.le_refl _, trivial, hwf_cons hw (hw b _ hb).1 trivial, fun _ _ => rfl, hH.setM hb rfl rfl, Kept.setM w _ _ (hown b _ hb rfl hm), hown.set hb rfl, fun _ => rfl, .inr ⟨?_, rfl⟩⟩
        simp only [SV.den, Instr.mapUpdate, Sem.run_bind, run_underlying (und_mp hτ hk), Result.andThen_ok, run_getMap h1, Sem.run_pure, hc, run_findKey_eq w hK.1, hf]
        cases hfi : mfind bv l K 0 with
        | none =>
          obtain ⟨m1, m2⟩ := mset_none (x := z) (b := 0) hfi
          have e1 : (mpE bv (mset l K z) 0).toArray = (mpE bv l 0).toArray.push ⟨.agg (ints K), v.den B, l.length⟩ := by
            rw [m1, hv]; apply Array.ext'; simp
          simp only [run_setMap _ h1, Result.andThen_ok, Sem.run_pure, SObj.den, e1, m2]
        | some q =>
          obtain ⟨j, v0, m1, m2, m3, m4⟩ := mset_some (x := z) (b := 0) hfi
          obtain ⟨q1, q2⟩ := q
          simp only at m1
          rw [Nat.zero_add] at m1
          subst m1
          have e1 : (mpE bv (mset l K z) 0).toArray = (mpE bv l 0).toArray.modify q1 (fun e => { e with key := .agg (ints K), val := v.den B }) := by
            rw [m3, hv]; apply Array.ext'; simp
          have e2 : ((((mpE bv l 0).toArray)[q1]?).map (·.key)).getD (.agg (ints K)) = .agg (ints K) := by
            simp [m2]
          simp only [e2, Instr.keyThatStays, sameBits_ints, if_true, Sem.run_bind, Sem.run_pure, Result.andThen_ok, run_setMap _ h1, SObj.den, e1, m4]
      split at h
      · rename_i y
        refine fin (if y then 1 else 0) h ?_
        cases y <;> simp [mvS, SV.den]
      · rename_i y
        exact fin y h rfl
      · exact h.elim
    · exact h.elim
  · exact h.elim

end
end Go.Proofs.Ytckcojgfgcjamaa
