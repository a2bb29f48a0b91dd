/- The engine: a symbolic state (slots, a heap of named blocks) and what it says of a frame and a world. -/
import Derived.Test.YtnlbljikbonioaaProg
import Derived.WalkKit
import Derived.Deep.Quiet
import Derived.Laws.StructEq
set_option maxRecDepth 100000
set_option linter.unusedSimpArgs false
set_option linter.unusedVariables false
namespace Go.Proofs.Ytnlbljikbonioaa
open Go Go.RowKit

/-- A symbolic value: blocks by name. -/
inductive SV where
  | non | und | int (x : Int) | bool (b : Bool) | arr (L : List Int) | barr (L : List Bool) | lit (v : Value)
  | ptr (b off : Nat) | slice (b off len cap : Nat) | nils | fn (f : Nat) (caps : List SV) | tup (l : List SV) | mp (b : Nat) | stc (l : List SV)
  deriving Inhabited

def ints (L : List Int) : Array Value := (L.map (Value.int .i64)).toArray
def bls (L : List Bool) : Array Value := (L.map Value.bool).toArray
@[simp] theorem size_ints (L : List Int) : (ints L).size = L.length := by simp [ints]
@[simp] theorem size_bls (L : List Bool) : (bls L).size = L.length := by simp [bls]
@[simp] theorem toList_ints (L : List Int) : (ints L).toList = L.map (Value.int .i64) := by simp [ints]
@[simp] theorem toList_bls (L : List Bool) : (bls L).toList = L.map Value.bool := by simp [bls]
@[simp] theorem get_ints (L : List Int) (k : Nat) : (ints L)[k]? = (L[k]?).map (Value.int .i64) := by simp [ints]
@[simp] theorem get_bls (L : List Bool) (k : Nat) : (bls L)[k]? = (L[k]?).map Value.bool := by simp [bls]

mutual
def SV.den (B : Nat → Nat) : SV → Value
  | .non => undef
  | .und => undef
  | .int x => .int .i64 x
  | .bool b => .bool b
  | .arr L => .agg (ints L)
  | .barr L => .agg (bls L)
  | .lit v => v
  | .ptr b o => .pointer (some ⟨B b, o, none⟩)
  | .slice b o l c => .slice (some ⟨B b, o, none⟩) l c
  | .nils => .slice none 0 0
  | .mp b => .map (some (B b))
  | .fn f caps => .func (.func f) #[] (denL B caps).toArray
  | .tup l => .tuple (denL B l).toArray
  | .stc l => .agg (denL B l).toArray
def denL (B : Nat → Nat) : List SV → List Value
  | [] => []
  | v :: r => v.den B :: denL B r
end

mutual
def SV.wf (n : Nat) : SV → Prop
  | .ptr b _ => b < n
  | .slice b _ _ _ => b < n
  | .mp b => b < n
  | .fn _ caps => wfL n caps
  | .tup l => wfL n l
  | .stc l => wfL n l
  | _ => True
def wfL (n : Nat) : List SV → Prop
  | [] => True
  | v :: r => v.wf n ∧ wfL n r
end

mutual
def SV.ren (r : Nat → Nat) : SV → SV
  | .ptr b o => .ptr (r b) o
  | .slice b o l c => .slice (r b) o l c
  | .mp b => .mp (r b)
  | .fn f caps => .fn f (renL r caps)
  | .tup l => .tup (renL r l)
  | .stc l => .stc (renL r l)
  | .non => .non
  | .und => .und
  | .int x => .int x
  | .bool b => .bool b
  | .arr L => .arr L
  | .barr L => .barr L
  | .lit v => .lit v
  | .nils => .nils
def renL (r : Nat → Nat) : List SV → List SV
  | [] => []
  | v :: l => v.ren r :: renL r l
end

def SV.known : SV → Bool
  | .non => false
  | _ => true

@[simp] theorem length_denL (B : Nat → Nat) : ∀ l, (denL B l).length = l.length
  | [] => by simp [denL]
  | v :: r => by simp [denL, length_denL B r]
theorem denL_map (B : Nat → Nat) : ∀ l, denL B l = l.map (SV.den B)
  | [] => by simp [denL]
  | v :: r => by simp [denL, denL_map B r]
theorem wfL_iff (n : Nat) : ∀ l, wfL n l ↔ ∀ v ∈ l, v.wf n
  | [] => by simp [wfL]
  | v :: r => by simp [wfL, wfL_iff n r]
theorem renL_map (r : Nat → Nat) : ∀ l, renL r l = l.map (SV.ren r)
  | [] => by simp [renL]
  | v :: l => by simp [renL, renL_map r l]

mutual
theorem SV.den_congr {B B' : Nat → Nat} {n : Nat} (h : ∀ k, k < n → B' k = B k) : ∀ v : SV, v.wf n → v.den B' = v.den B
  | .non, _ => rfl
  | .und, _ => rfl
  | .int _, _ => rfl
  | .bool _, _ => rfl
  | .arr _, _ => rfl
  | .barr _, _ => rfl
  | .lit _, _ => rfl
  | .nils, _ => rfl
  | .ptr b o, hw => by simp only [SV.den]; rw [h b (by simpa [SV.wf] using hw)]
  | .slice b o l c, hw => by simp only [SV.den]; rw [h b (by simpa [SV.wf] using hw)]
  | .mp b, hw => by simp only [SV.den]; rw [h b (by simpa [SV.wf] using hw)]
  | .fn f caps, hw => by simp only [SV.den]; rw [denL_congr h caps (by simpa [SV.wf] using hw)]
  | .tup l, hw => by simp only [SV.den]; rw [denL_congr h l (by simpa [SV.wf] using hw)]
  | .stc l, hw => by simp only [SV.den]; rw [denL_congr h l (by simpa [SV.wf] using hw)]
theorem denL_congr {B B' : Nat → Nat} {n : Nat} (h : ∀ k, k < n → B' k = B k) : ∀ l : List SV, wfL n l → denL B' l = denL B l
  | [], _ => rfl
  | v :: r, hw => by
    simp only [wfL] at hw
    simp only [denL]
    rw [SV.den_congr h v hw.1, denL_congr h r hw.2]
end

mutual
theorem SV.den_ren (B : Nat → Nat) (r : Nat → Nat) : ∀ v : SV, (v.ren r).den B = v.den (fun k => B (r k))
  | .non => rfl
  | .und => rfl
  | .int _ => rfl
  | .bool _ => rfl
  | .arr _ => rfl
  | .barr _ => rfl
  | .lit _ => rfl
  | .nils => rfl
  | .ptr b o => rfl
  | .slice b o l c => rfl
  | .mp b => rfl
  | .fn f caps => by simp only [SV.ren, SV.den]; rw [denL_ren B r caps]
  | .tup l => by simp only [SV.ren, SV.den]; rw [denL_ren B r l]
  | .stc l => by simp only [SV.ren, SV.den]; rw [denL_ren B r l]
theorem denL_ren (B : Nat → Nat) (r : Nat → Nat) : ∀ l : List SV, denL B (renL r l) = denL (fun k => B (r k)) l
  | [] => rfl
  | v :: l => by simp only [renL, denL]; rw [SV.den_ren B r v, denL_ren B r l]
end

mutual
theorem SV.wf_mono {n n' : Nat} (h : n ≤ n') : ∀ v : SV, v.wf n → v.wf n'
  | .non, _ => trivial
  | .und, _ => trivial
  | .int _, _ => trivial
  | .bool _, _ => trivial
  | .arr _, _ => trivial
  | .barr _, _ => trivial
  | .lit _, _ => trivial
  | .nils, _ => trivial
  | .ptr b o, hw => by simp only [SV.wf] at *; omega
  | .slice b o l c, hw => by simp only [SV.wf] at *; omega
  | .mp b, hw => by simp only [SV.wf] at *; omega
  | .fn f caps, hw => by simp only [SV.wf] at *; exact wfL_mono h caps hw
  | .tup l, hw => by simp only [SV.wf] at *; exact wfL_mono h l hw
  | .stc l, hw => by simp only [SV.wf] at *; exact wfL_mono h l hw
theorem wfL_mono {n n' : Nat} (h : n ≤ n') : ∀ l : List SV, wfL n l → wfL n' l
  | [], _ => trivial
  | v :: r, hw => by simp only [wfL] at *; exact ⟨SV.wf_mono h v hw.1, wfL_mono h r hw.2⟩
end

mutual
theorem SV.ren_id : ∀ v : SV, v.ren (fun k => k) = v
  | .non => rfl
  | .und => rfl
  | .int _ => rfl
  | .bool _ => rfl
  | .arr _ => rfl
  | .barr _ => rfl
  | .lit _ => rfl
  | .nils => rfl
  | .ptr b o => rfl
  | .slice b o l c => rfl
  | .mp b => rfl
  | .fn f caps => by simp only [SV.ren]; rw [renL_id caps]
  | .tup l => by simp only [SV.ren]; rw [renL_id l]
  | .stc l => by simp only [SV.ren]; rw [renL_id l]
theorem renL_id : ∀ l : List SV, renL (fun k => k) l = l
  | [] => rfl
  | v :: l => by simp only [renL]; rw [SV.ren_id v, renL_id l]
end

/-- A map's value: an int, or a Bool told by 1. -/
def mvS : Bool → Int → SV
  | true, v => .bool (decide (v = 1))
  | false, v => .int v
/-- A map's entries, none of which was ever taken out. -/
def mpE (bv : Bool) : List (List Int × Int) → Nat → List MapEntry
  | [], _ => []
  | (k, v) :: r, i => ⟨.agg (ints k), (mvS bv v).den (fun _ => 0), i⟩ :: mpE bv r (i + 1)

/-- A block. -/
inductive SObj where
  | ints (L : List Int) (e : Nat) | bls (L : List Bool) (e : Nat) | cells (l : List SV) (e : Nat) | dead
  | hole (n e : Nat) | win (o : Nat) (L : List Int) | winU (o : Nat) (L : List Int) | mp (bv : Bool) (l : List (List Int × Int))
  deriving Inhabited

def SObj.live : SObj → Bool
  | .dead => false
  | _ => true
def SObj.den (B : Nat → Nat) : SObj → Obj
  | .ints L e => .cells (Go.Proofs.Ytnlbljikbonioaa.ints L) e (0, 0)
  | .bls L e => .cells (Go.Proofs.Ytnlbljikbonioaa.bls L) e (0, 0)
  | .cells l e => .cells (denL B l).toArray e (0, 0)
  | .dead => .cells #[] 0 (0, 0)
  | .hole _ _ => .cells #[] 0 (0, 0)
  | .win _ _ => .cells #[] 0 (0, 0)
  | .winU _ _ => .cells #[] 0 (0, 0)
  | .mp bv l => .map (mpE bv l 0).toArray l.length
def SObj.wf (n : Nat) : SObj → Prop
  | .cells l _ => wfL n l
  | _ => True
def SObj.ren (r : Nat → Nat) : SObj → SObj
  | .cells l e => .cells (renL r l) e
  | o => o
theorem SObj.den_ren (B : Nat → Nat) (r : Nat → Nat) (o : SObj) : (o.ren r).den B = o.den (fun k => B (r k)) := by
  cases o <;> simp [SObj.ren, SObj.den, denL_ren]
theorem SObj.live_ren (r : Nat → Nat) (o : SObj) : (o.ren r).live = o.live := by cases o <;> rfl
theorem SObj.den_congr {B B' : Nat → Nat} {n : Nat} (h : ∀ k, k < n → B' k = B k) (o : SObj) (hw : o.wf n) : o.den B' = o.den B := by
  cases o <;> simp only [SObj.den]
  rw [denL_congr h _ hw]
theorem SObj.wf_mono {n n' : Nat} (h : n ≤ n') (o : SObj) (hw : o.wf n) : o.wf n' := by
  cases o <;> simp only [SObj.wf] at *
  exact wfL_mono h _ hw
theorem SObj.ren_id (o : SObj) : o.ren (fun k => k) = o := by cases o <;> simp [SObj.ren, renL_id]

abbrev Heap := List (Nat × SObj)
abbrev Env := List (Nat × SV)
def hget (H : Heap) (k : Nat) : Option SObj := H.lookup k
def sget (S : Env) (t : Nat) : SV := (S.lookup t).getD .non

/-- Is the block's whole content known? -/
def SObj.full : SObj → Bool
  | .hole _ _ => false
  | .win _ _ => false
  | .winU _ _ => false
  | _ => true
/-- What is known of a block: all of it, its shape alone (a hole), or some of its cells (a window). -/
def SObj.sat (B : Nat → Nat) (w : World) (id : Nat) : SObj → Prop
  | .hole n e => ∃ c : Array Value, w.heap[id]? = some (.cells c e (0, 0)) ∧ c.size = n
  | .win o L => ∃ (c : Array Value) (e : TypeId) (fz : Nat × Nat), w.heap[id]? = some (.cells c e fz) ∧ ∀ i, i < L.length → c[o + i]? = some (.int .i64 (L.getD i 0))
  | .winU o L => ∃ (c : Array Value) (e : TypeId) (fz : Nat × Nat), w.heap[id]? = some (.cells c e fz) ∧ ∀ i, i < L.length → c[o + i]? = some (.int .u8 (L.getD i 0))
  | o => w.heap[id]? = some (o.den B)
theorem SObj.sat_heap {B : Nat → Nat} {w w' : World} {id id' : Nat} {o : SObj} (he : w'.heap[id']? = w.heap[id]?) (h : o.sat B w id) : o.sat B w' id' := by
  cases o <;> simp only [SObj.sat, he] at * <;> exact h
theorem SObj.sat_of_den {B : Nat → Nat} {w : World} {id : Nat} {o : SObj} (hf : o.full = true) (h : w.heap[id]? = some (o.den B)) : o.sat B w id := by
  cases o <;> first | exact h | (cases hf)
theorem SObj.den_of_sat {B : Nat → Nat} {w : World} {id : Nat} {o : SObj} (hf : o.full = true) (h : o.sat B w id) : w.heap[id]? = some (o.den B) := by
  cases o <;> first | exact h | (cases hf)
theorem SObj.sat_lt {B : Nat → Nat} {w : World} {id : Nat} {o : SObj} (h : o.sat B w id) : id < w.heap.size := by
  cases o <;> simp only [SObj.sat] at h
  case hole n e => obtain ⟨c, h, _⟩ := h; exact (Array.getElem?_eq_some_iff.1 h).1
  case win o L => obtain ⟨c, e, fz, h, _⟩ := h; exact (Array.getElem?_eq_some_iff.1 h).1
  case winU o L => obtain ⟨c, e, fz, h, _⟩ := h; exact (Array.getElem?_eq_some_iff.1 h).1
  all_goals exact (Array.getElem?_eq_some_iff.1 h).1
theorem SObj.sat_congr {B B' : Nat → Nat} {n : Nat} (h : ∀ k, k < n → B' k = B k) {w : World} {id : Nat} (o : SObj) (hw : o.wf n) (hs : o.sat B w id) : o.sat B' w id := by
  have hd := SObj.den_congr h o hw
  cases o <;> simp only [SObj.sat] at * <;> first | exact hs | (rw [hd]; exact hs)
theorem SObj.sat_ren {B : Nat → Nat} {ρ : Nat → Nat} {w : World} {id : Nat} {o : SObj} : (o.ren ρ).sat B w id = o.sat (fun k => B (ρ k)) w id := by
  cases o <;> simp [SObj.sat, SObj.ren, SObj.den, denL_ren]
structure HR (B : Nat → Nat) (H : Heap) (w : World) : Prop where
  at_ : ∀ k o, hget H k = some o → o.live = true → o.sat B w (B k)
  inj : ∀ k j o o', hget H k = some o → o.live = true → hget H j = some o' → o'.live = true → B k = B j → k = j

def hwf (n : Nat) (H : Heap) : Prop := ∀ k o, hget H k = some o → k < n ∧ o.wf n
def swf (n : Nat) (S : Env) : Prop := ∀ t v, S.lookup t = some v → v.wf n

structure SR (B : Nat → Nat) (N : Nat) (S : Env) (a : Act) : Prop where
  size : a.tmps.size = N
  df : a.defers = []
  at_ : ∀ t v, S.lookup t = some v → v.known = true → a.tmps[t]? = some (v.den B)

theorem sget_wf {n : Nat} {S : Env} (h : swf n S) (t : Nat) : (sget S t).wf n := by
  unfold sget
  cases hq : S.lookup t with
  | none => simp [SV.wf]
  | some v => simpa using h t v hq

/-- All cells are int64. -/
def allI : List Value → Option (List Int)
  | [] => some []
  | .int .i64 x :: r => (allI r).map (x :: ·)
  | _ :: _ => none
theorem allI_spec : ∀ (l : List Value) (L : List Int), allI l = some L → l = L.map (Value.int .i64)
  | [], L, h => by simp [allI] at h; subst h; rfl
  | v :: r, L, h => by
    unfold allI at h
    split at h
    · rename_i h0; cases h0
    · rename_i x r' h0
      cases h0
      cases hq : allI r with
      | none => simp [hq] at h
      | some M => simp [hq] at h; subst h; simp [allI_spec r M hq]
    · cases h

def constSV : Value → SV
  | .int .i64 x => .int x
  | .bool b => .bool b
  | .slice none 0 0 => .nils
  | .agg cs => match allI cs.toList with
    | some L => .arr L
    | none => .lit (.agg cs)
  | v => .lit v
theorem den_constSV (B : Nat → Nat) (v : Value) : (constSV v).den B = v := by
  unfold constSV
  split
  · rfl
  · rfl
  · rfl
  · rename_i cs
    split
    · rename_i L h
      simp only [SV.den, ints]
      rw [← allI_spec _ _ h]
    · rfl
  · rfl
theorem wf_constSV (n : Nat) (v : Value) : (constSV v).wf n := by
  unfold constSV
  split <;> (try trivial)
  split <;> trivial
theorem known_constSV (v : Value) : (constSV v).known = true := by
  unfold constSV
  split <;> (try rfl)
  split <;> rfl

def ev (S : Env) : Operand → SV
  | .tmp t => sget S t
  | .const v => constSV v
  | .global _ => .non
  | .func f => .fn f []
theorem ev_den {B : Nat → Nat} {N : Nat} {S : Env} {a : Act} (h : SR B N S a) (x : Operand) (hk : (ev S x).known = true) : a.eval x = (ev S x).den B := by
  cases x with
  | tmp t =>
    simp only [ev, sget] at *
    cases hq : S.lookup t with
    | none => simp [hq, SV.known] at hk
    | some v =>
      simp [hq] at hk ⊢
      have := h.at_ t v hq hk
      simp [Act.eval, this]
  | const v => simp [ev, Act.eval, den_constSV]
  | global g => simp [ev, SV.known] at hk
  | func f => simp [ev, Act.eval, SV.den, denL]
theorem ev_wf {n : Nat} {S : Env} (h : swf n S) (x : Operand) : (ev S x).wf n := by
  cases x with
  | tmp t => exact sget_wf h t
  | const v => exact wf_constSV n v
  | global g => trivial
  | func f => simp [ev, SV.wf, wfL]

def sput (S : Env) (d : Option Tmp) (v : SV) : Env := match d with
  | some t => (t, v) :: S
  | none => S

theorem SR.put {B : Nat → Nat} {N : Nat} {S : Env} {a : Act} (h : SR B N S a) (d : Option Tmp) (v : SV) (x : Value) (hd : ∀ t, d = some t → t < N) (hx : v.known = true → x = v.den B) : SR B N (sput S d v) (a.put d x) := by
  cases d with
  | none => exact h
  | some t =>
    refine ⟨by simp [Act.put, h.size], by simp [Act.put, h.df], ?_⟩
    intro t' v' hl hk
    simp only [sput, List.lookup_cons] at hl
    by_cases ht : t' = t
    · subst ht
      simp at hl
      subst hl
      simp only [Act.put, Array.getElem?_setIfInBounds_self, h.size, hd t' rfl, if_true]
      rw [hx hk]
    · have : (t' == t) = false := by simpa using ht
      rw [this] at hl
      simp only [Act.put]
      rw [Array.getElem?_setIfInBounds_ne (Ne.symm ht)]
      exact h.at_ t' v' hl hk
theorem swf_put {n : Nat} {S : Env} (h : swf n S) (d : Option Tmp) {v : SV} (hv : v.wf n) : swf n (sput S d v) := by
  cases d with
  | none => exact h
  | some t =>
    intro t' v' hl
    simp only [sput, List.lookup_cons] at hl
    by_cases ht : t' = t
    · subst ht; simp at hl; subst hl; exact hv
    · have : (t' == t) = false := by simpa using ht
      rw [this] at hl
      exact h t' v' hl
theorem swf_mono {n n' : Nat} (h : n ≤ n') {S : Env} (hs : swf n S) : swf n' S := fun t v hl => SV.wf_mono h v (hs t v hl)
theorem hwf_mono {n n' : Nat} (h : n ≤ n') {H : Heap} (hs : hwf n H) : hwf n' H := fun t v hl => ⟨Nat.lt_of_lt_of_le (hs t v hl).1 h, SObj.wf_mono h v (hs t v hl).2⟩
theorem SR.congr {B B' : Nat → Nat} {N n : Nat} {S : Env} {a : Act} (h : SR B N S a) (hw : swf n S) (hb : ∀ k, k < n → B' k = B k) : SR B' N S a :=
  ⟨h.size, h.df, fun t v hl hk => by rw [SV.den_congr hb v (hw t v hl)]; exact h.at_ t v hl hk⟩
theorem HR.congr {B B' : Nat → Nat} {n : Nat} {H : Heap} {w : World} (h : HR B H w) (hw : hwf n H) (hb : ∀ k, k < n → B' k = B k) : HR B' H w :=
  ⟨fun k o hl hk => by rw [hb k (hw k o hl).1]; exact SObj.sat_congr hb o (hw k o hl).2 (h.at_ k o hl hk),
   fun k j o o' h1 h2 h3 h4 he => h.inj k j o o' h1 h2 h3 h4 (by rw [← hb k (hw k o h1).1, ← hb j (hw j o' h3).1]; exact he)⟩

end Go.Proofs.Ytnlbljikbonioaa
