/- The engine: operations that make or write memory, calls, regions, code. -/
import Derived.Test.YtnlbljikbonioaaEngP
set_option maxRecDepth 100000
set_option linter.unusedSimpArgs false
set_option linter.unusedVariables false
namespace Go.Proofs.Ytnlbljikbonioaa
open Go Go.RowKit

/-- Blocks outside M stay as they are. -/
structure Kept (M : Nat → Prop) (w w' : World) : Prop where
  os : w'.os = w.os
  tape : w'.tape = w.tape
  output : w'.output = w.output
  size : w.heap.size ≤ w'.heap.size
  block : ∀ i, i < w.heap.size → ¬ M i → w'.heap[i]? = w.heap[i]?
  drawn : w.drawn ≤ w'.drawn
/-- As the kit's; and no draw is taken back. -/
structure Bel (B : Nat) (w w' : World) : Prop extends Go.RowKit.Below B w w' where
  drawn : w.drawn ≤ w'.drawn
theorem Bel.refl (B : Nat) (w : World) : Bel B w w := ⟨Go.RowKit.Below.refl B w, Nat.le_refl _⟩
theorem Kept.refl (M : Nat → Prop) (w : World) : Kept M w w := ⟨rfl, rfl, rfl, Nat.le_refl _, fun _ _ _ => rfl, Nat.le_refl _⟩
theorem Kept.trans {M : Nat → Prop} {a b c : World} (h : Kept M a b) (k : Kept M b c) : Kept M a c :=
  ⟨k.os.trans h.os, k.tape.trans h.tape, k.output.trans h.output, Nat.le_trans h.size k.size, fun i hi hM => (k.block i (Nat.lt_of_lt_of_le hi h.size) hM).trans (h.block i hi hM), Nat.le_trans h.drawn k.drawn⟩
theorem Kept.of_below {M : Nat → Prop} {w w' : World} (h : Bel w.heap.size w w') : Kept M w w' :=
  ⟨h.os, h.tape, h.output, h.size, fun i hi _ => h.block i hi, h.drawn⟩
theorem Kept.below {M : Nat → Prop} {w w' : World} (h : Kept M w w') (hM : ∀ i, i < w.heap.size → ¬ M i) : Bel w.heap.size w w' :=
  ⟨⟨h.os, h.tape, h.output, h.size, fun i hi => h.block i hi (hM i hi)⟩, h.drawn⟩
theorem Kept.drew {M : Nat → Prop} (w : World) : Kept M w { w with drawn := w.drawn + 1 } := ⟨rfl, rfl, rfl, Nat.le_refl _, fun _ _ _ => rfl, Nat.le_succ _⟩

def Own (M : Nat → Prop) (m : Nat) (B : Nat → Nat) (H : Heap) : Prop := ∀ k o, hget H k = some o → o.live = true → m ≤ k → M (B k)

theorem HR.of_below {B : Nat → Nat} {H : Heap} {w w' : World} (h : HR B H w) (hb : Bel w.heap.size w w') : HR B H w' :=
  ⟨fun k o hl hk => by
    have h1 := h.at_ k o hl hk
    exact SObj.sat_heap (hb.block _ (SObj.sat_lt h1)) h1, h.inj⟩
theorem HR.lt {B : Nat → Nat} {H : Heap} {w : World} (h : HR B H w) {k : Nat} {o : SObj} (hl : hget H k = some o) (hk : o.live = true) : B k < w.heap.size :=
  SObj.sat_lt (h.at_ k o hl hk)

def upd (B : Nat → Nat) (n id : Nat) : Nat → Nat := fun k => if k = n then id else B k
theorem upd_lt (B : Nat → Nat) (n id : Nat) : ∀ k, k < n → upd B n id k = B k := fun k hk => by simp [upd]; omega
theorem upd_self (B : Nat → Nat) (n id : Nat) : upd B n id n = id := by simp [upd]

theorem hget_cons (k b : Nat) (o : SObj) (H : Heap) : hget ((b, o) :: H) k = if k = b then some o else hget H k := by
  unfold hget
  rw [List.lookup_cons]
  by_cases h : k = b
  · simp [h]
  · have : (k == b) = false := by simpa using h
    simp [h, this]

/-- A new block. -/
theorem HR.new {B : Nat → Nat} {H : Heap} {n : Nat} {w : World} {o : SObj} (h : HR B H w) (hw : hwf n H) (ho : o.live = true) (hfl : o.full = true) (hwo : o.wf n) :
    HR (upd B n w.heap.size) ((n, o) :: H) (w.alloc (o.den B)) := by
  have hag := upd_lt B n w.heap.size
  refine ⟨fun k o' hl hk => ?_, fun k j o1 o2 h1 h2 h3 h4 he => ?_⟩
  · rw [hget_cons] at hl
    split at hl
    · rename_i hkn
      subst hkn
      cases hl
      rw [upd_self]
      exact SObj.sat_of_den hfl (by rw [SObj.den_congr hag o hwo]; exact heap_alloc_new w _)
    · have hkn := (hw k o' hl).1
      rw [hag k hkn]
      exact SObj.sat_congr hag o' (hw k o' hl).2 (SObj.sat_heap (Below.heap_alloc w _ _ (h.lt hl hk)) (h.at_ k o' hl hk))
  · rw [hget_cons] at h1 h3
    split at h1
    · rename_i hk
      split at h3
      · rename_i hj; omega
      · subst hk
        rw [upd_self, hag j (hw j o2 h3).1] at he
        have := h.lt h3 h4
        omega
    · split at h3
      · rename_i hj
        subst hj
        rw [upd_self, hag k (hw k o1 h1).1] at he
        have := h.lt h1 h2
        omega
      · rw [hag k (hw k o1 h1).1, hag j (hw j o2 h3).1] at he
        exact h.inj k j o1 o2 h1 h2 h3 h4 he
theorem hwf_cons {n : Nat} {H : Heap} {b : Nat} {o : SObj} (hw : hwf n H) (hb : b < n) (ho : o.wf n) : hwf n ((b, o) :: H) := by
  intro k o' hl
  rw [hget_cons] at hl
  split at hl
  · rename_i hk; subst hk; cases hl; exact ⟨hb, ho⟩
  · exact hw k o' hl
theorem Own.new {M : Nat → Prop} {m n : Nat} {B : Nat → Nat} {H : Heap} {o : SObj} {id : Nat} (h : Own M m B H) (hw : hwf n H) (hM : M id) : Own M m (upd B n id) ((n, o) :: H) := by
  intro k o' hl hk hm
  rw [hget_cons] at hl
  split at hl
  · rename_i hkn; subst hkn; rw [upd_self]; exact hM
  · rw [upd_lt B n id k (hw k o' hl).1]; exact h k o' hl hk hm

/-- A block written. -/
theorem HR.set {B : Nat → Nat} {H : Heap} {w : World} {b : Nat} {o o' : SObj} {cs : Array Value} {e : Nat} (h : HR B H w) (hb : hget H b = some o) (ho : o.live = true) (c0 : Array Value) (hat : w.heap[B b]? = some (.cells c0 e (0, 0))) (hd : o'.den B = .cells cs e (0, 0)) (hf' : o'.full = true) :
    HR B ((b, o') :: H) (w.setRow (B b) cs) := by
  refine ⟨fun k o1 hl hk => ?_, fun k j o1 o2 h1 h2 h3 h4 he => ?_⟩
  · rw [hget_cons] at hl
    split at hl
    · rename_i hkb
      subst hkb
      cases hl
      exact SObj.sat_of_den hf' (by rw [hd]; exact setRow_heap w _ _ _ _ _ hat)
    · rename_i hkb
      have hne : B k ≠ B b := fun e => hkb (h.inj k b o1 o hl hk hb ho e)
      exact SObj.sat_heap (setRow_other w _ _ _ hne) (h.at_ k o1 hl hk)
  · rw [hget_cons] at h1 h3
    split at h1
    · rename_i hk
      split at h3
      · rename_i hj; omega
      · subst hk; exact h.inj k j o o2 hb ho h3 h4 he
    · split at h3
      · rename_i hj; subst hj; exact h.inj k j o1 o h1 h2 hb ho he
      · exact h.inj k j o1 o2 h1 h2 h3 h4 he
theorem Own.set {M : Nat → Prop} {m : Nat} {B : Nat → Nat} {H : Heap} {b : Nat} {o o' : SObj} (h : Own M m B H) (hb : hget H b = some o) (ho : o.live = true) : Own M m B ((b, o') :: H) := by
  intro k o1 hl hk hm
  rw [hget_cons] at hl
  split at hl
  · rename_i hkb; subst hkb; exact h k o hb ho hm
  · exact h k o1 hl hk hm
theorem Kept.setRow {M : Nat → Prop} (w : World) (g : Nat) (cs : Array Value) (hM : M g) : Kept M w (w.setRow g cs) :=
  ⟨rfl, rfl, rfl, by simp, fun i _ hi => setRow_other w g i cs (fun e => hi (e ▸ hM)), Nat.le_refl _⟩
theorem Kept.alloc {M : Nat → Prop} (w : World) (o : Obj) : Kept M w (w.alloc o) :=
  ⟨rfl, rfl, rfl, by simp, fun i hi _ => Below.heap_alloc w o i hi, Nat.le_refl _⟩

/-- What an operation with an effect comes to. -/
def EffRes (P : Program) (B : Nat → Nat) (M : Nat → Prop) (m n : Nat) (w : World) (s : Sem Next) (κ : K1) : Prop :=
  ∃ v H' n' B' x w', κ v H' n' ∧ n ≤ n' ∧ SV.wf n' v ∧ hwf n' H' ∧ (∀ k, k < n → B' k = B k) ∧ HR B' H' w' ∧ Kept M w w' ∧ Own M m B' H' ∧ (v.known = true → x = v.den B') ∧
    (s.run P w = .ok (.value x) w' ∨ (s.run P w = .ok .skip w' ∧ x = undef))

def blockOf (v : SV) (e : Nat) : Option SObj := match v with
  | .int x => some (.ints [x] e)
  | .arr L => some (.ints L e)
  | .bool b => some (.bls [b] e)
  | .barr L => some (.bls L e)
  | .ptr b o => some (.cells [.ptr b o] e)
  | .slice b o l c => some (.cells [.slice b o l c] e)
  | .nils => some (.cells [.nils] e)
  | .fn f caps => some (.cells [.fn f caps] e)
  | .mp b => some (.cells [.mp b] e)
  | .stc l => if l.all oneCellS = true then some (.cells l e) else none
  | _ => none
theorem blockOf_full {v : SV} {e : Nat} {o : SObj} (h : blockOf v e = some o) : o.full = true := by
  cases v <;> simp only [blockOf] at h <;> first | (cases h; rfl) | (split at h <;> cases h; rfl) | cases h
theorem blockOf_spec {v : SV} {e : Nat} {o : SObj} (h : blockOf v e = some o) (B : Nat → Nat) : o.live = true ∧ o.den B = .cells (v.den B).cells e (0, 0) ∧ v.known = true ∧ (∀ n, v.wf n → o.wf n) := by
  cases v
  case stc l =>
    simp only [blockOf] at h
    split at h
    · cases h
      exact ⟨rfl, rfl, rfl, fun n hn => hn⟩
    · cases h
  all_goals (simp only [blockOf] at h; first | (cases h; done) | (cases h; refine ⟨rfl, ?_, rfl, fun n hn => ?_⟩ <;>
    first | rfl | trivial | (simp [SObj.den, SV.den, Value.cells, ints, bls, denL]; done) | (simp only [SObj.wf, wfL]; exact ⟨hn, trivial⟩)))
def newVC (v : SV) (e : Nat) (H : Heap) (n : Nat) (κ : K1) : Prop := match blockOf v e with
  | some o => κ (.ptr n 0) ((n, o) :: H) (n + 1)
  | none => False

def storeB (d : TyD) (o : Option SObj) (b off : Nat) (v : SV) (H : Heap) (n : Nat) (κ : K1) : Prop := match o with
  | some (.ints L e) => match v with
    | .int x => d.size = 1 ∧ off < L.length ∧ κ .und ((b, .ints (L.set off x) e) :: H) n
    | .arr M => M.length = d.size ∧ off + M.length ≤ L.length ∧ κ .und ((b, .ints (L.take off ++ M ++ L.drop (off + M.length)) e) :: H) n
    | _ => False
  | some (.bls L e) => match v with
    | .bool x => d.size = 1 ∧ off < L.length ∧ κ .und ((b, .bls (L.set off x) e) :: H) n
    | .barr M => M.length = d.size ∧ off + M.length ≤ L.length ∧ κ .und ((b, .bls (L.take off ++ M ++ L.drop (off + M.length)) e) :: H) n
    | _ => False
  | some (.cells l e) => match v with
    | .stc M => M.all oneCellS = true ∧ M.length = d.size ∧ off + M.length ≤ l.length ∧ κ .und ((b, .cells (l.take off ++ M ++ l.drop (off + M.length)) e) :: H) n
    | v => oneCellS v = true ∧ d.size = 1 ∧ off < l.length ∧ κ .und ((b, .cells (l.set off v) e) :: H) n
  | _ => False
def storeVC (m : Nat) (d : TyD) (a v : SV) (H : Heap) (n : Nat) (κ : K1) : Prop := match a with
  | .ptr b off => m ≤ b ∧ d.k ≠ .other ∧ storeB d (hget H b) b off v H n κ
  | _ => False
def isZ (z : SV) (s : Nat) : Bool := match z with
  | .int 0 => s == 1
  | .arr L => L == List.replicate s 0
  | _ => false
def buildSliceVC (τ : Tys) (d : TyD) (len : Nat) (parts : List (Nat × SV)) (H : Heap) (n : Nat) (κ : K1) : Prop := match d.k with
  | .sl e => (τ e).k ≠ .other ∧ isZ (τ e).z (τ e).size = true ∧ 0 < (τ e).size ∧ len * (τ e).size ≤ 16777216 ∧
    match fillI (fun i => some (i * (τ e).size, (τ e).size)) (List.replicate (len * (τ e).size) 0) parts with
    | some L => κ (.slice n 0 len len) ((n, .ints L e) :: H) (n + 1)
    | none => False
  | _ => False
def srcVC (es : Nat) (x : SV) (H : Heap) (κ : List Int → Nat → Prop) : Prop := match x with
  | .slice b off len _ => match hget H b with
    | some (.ints L _) => 0 < len ∧ off + len * es ≤ L.length ∧ κ ((L.drop off).take (len * es)) len
    | _ => False
  | _ => False
/-- Nothing to append. -/
def srcE : SV → Bool
  | .slice _ _ 0 _ => true
  | .nils => true
  | _ => false
def keepVC (s : SV) (H : Heap) (n : Nat) (κ : K1) : Prop := match s with
  | .slice b 0 len cap => len ≤ cap ∧ κ (.slice b 0 len cap) H n
  | .nils => κ .nils H n
  | _ => False
def appendVC (τ : Tys) (m : Nat) (d : TyD) (s x : SV) (H : Heap) (n : Nat) (κ : K1) : Prop := match d.k with
  | .sl e => (τ e).k ≠ .other ∧ isZ (τ e).z (τ e).size = true ∧ 0 < (τ e).size ∧ match srcE x with
   | true => keepVC s H n κ
   | false => match s with
    | .nils => srcVC (τ e).size x H fun news k => k * (τ e).bytes ≤ 140737488355328 ∧ k ≤ 9223372036854775807 ∧
        ∀ (junk : List Int) (cap : Nat), junk.length + k * (τ e).size = cap * (τ e).size → κ (.slice n 0 k cap) ((n, .ints (news ++ junk) e) :: H) (n + 1)
    | .slice b 0 len cap => match hget H b with
      | some (.ints L e') => m ≤ b ∧ e' = e ∧ L.length = cap * (τ e).size ∧ len ≤ cap ∧ srcVC (τ e).size x H fun news k => (len + k) * (τ e).bytes ≤ 140737488355328 ∧ len + k ≤ 9223372036854775807 ∧
          ∀ (junk : List Int) (cap' : Nat), junk.length + (len + k) * (τ e).size = cap' * (τ e).size →
            κ (.slice n 0 (len + k) cap') ((n, .ints (L.take (len * (τ e).size) ++ news ++ junk) e) :: (b, .dead) :: H) (n + 1)
      | _ => False
    | _ => False
  | _ => False
def makeSliceVC (τ : Tys) (d : TyD) (l c : SV) (H : Heap) (n : Nat) (κ : K1) : Prop := match d.k, l, c with
  | .sl e, .int x, .int y => (τ e).k ≠ .other ∧ 0 < (τ e).size ∧ 0 ≤ x ∧ x ≤ y ∧ y ≤ 9223372036854775807 ∧ (τ e).bytes * y ≤ 140737488355328 ∧ match (τ e).z with
    | .nils => (τ e).size = 1 ∧ κ (.slice n 0 x.toNat y.toNat) ((n, .cells (List.replicate y.toNat .nils) e) :: H) (n + 1)
    | z => isZ z (τ e).size = true ∧ κ (.slice n 0 x.toNat y.toNat) ((n, .ints (List.replicate (y.toNat * (τ e).size) 0) e) :: H) (n + 1)
  | _, _, _ => False
def clearVC (τ : Tys) (m : Nat) (d : TyD) (s : SV) (H : Heap) (n : Nat) (κ : K1) : Prop := match d.k with
  | .sl e => (τ e).k ≠ .other ∧ isZ (τ e).z (τ e).size = true ∧ 0 < (τ e).size ∧ match s with
    | .slice b off len _ => match hget H b with
      | some (.ints L e') => m ≤ b ∧ 0 < len ∧ off + len * (τ e).size ≤ L.length ∧ κ (.tup []) ((b, .ints (L.take off ++ List.replicate (len * (τ e).size) 0 ++ L.drop (off + len * (τ e).size)) e') :: H) n
      | _ => False
    | _ => False
  | _ => False
def updB (P : Program) (k : Nat) (K : List Int) (b : Nat) (o : Option SObj) (v : SV) (H : Heap) (n : Nat) (κ : K1) : Prop := match o with
  | some (.mp bv l) => KeyI P k K.length ∧ keysOK l K.length ∧ match bv, v with
    | true, .bool x => κ .und ((b, .mp true (mset l K (if x then 1 else 0))) :: H) n
    | false, .int x => κ .und ((b, .mp false (mset l K x)) :: H) n
    | _, _ => False
  | _ => False
def mapUpdateVC (P : Program) (m : Nat) (d : TyD) (x i v : SV) (H : Heap) (n : Nat) (κ : K1) : Prop := match d.k, x, i with
  | .mp k _, .mp b, .arr K => m ≤ b ∧ updB P k K b (hget H b) v H n κ
  | _, _, _ => False
def makeMapVC (τ : Tys) (d : TyD) (H : Heap) (n : Nat) (κ : K1) : Prop := match d.k with
  | .mp _ e => match (τ e).k with
    | .bool => κ (.mp n) ((n, .mp true []) :: H) (n + 1)
    | .int => κ (.mp n) ((n, .mp false []) :: H) (n + 1)
    | _ => False
  | _ => False
/-- A map's size told in advance. -/
def hintVC (S : Env) (r : Option Operand) : Prop := match r with
  | none => True
  | some x => match ev S x with
    | .int _ => True
    | _ => False
def effVC (P : Program) (τ : Tys) (m : Nat) (op : Op) (S : Env) (H : Heap) (n : Nat) (κ : K1) : Prop := match op with
  | .alloc e => (τ e).k ≠ .other ∧ flat (τ e).z = true ∧ newVC (τ e).z e H n κ
  | .box e x => newVC (ev S x) e H n κ
  | .store t a x => storeVC m (τ t) (ev S a) (ev S x) H n κ
  | .buildSlice t len parts => buildSliceVC τ (τ t) len (parts.toList.map fun p => (p.1, ev S p.2)) H n κ
  | .makeSlice t l c => makeSliceVC τ (τ t) (ev S l) (ev S c) H n κ
  | .makeMap t r => hintVC S r ∧ makeMapVC τ (τ t) H n κ
  | .mapUpdate t x i v => mapUpdateVC P m (τ t) (ev S x) (ev S i) (ev S v) H n κ
  | .insert t x i v => mapUpdateVC P m (τ t) (ev S x) (ev S i) (ev S v) H n κ
  | .call c => match c.callee with
    | .builtin .append => match c.args.toList.map (ev S), c.argTypes.toList with
      | [s, x], [t, u] => t = u ∧ appendVC τ m (τ t) s x H n κ
      | _, _ => False
    | .builtin .clear => match c.args.toList.map (ev S), c.argTypes.toList with
      | [s], [t] => clearVC τ m (τ t) s H n κ
      | _, _ => False
    | _ => False
  | _ => False

section
variable {P : Program} {τ : Tys} {B : Nat → Nat} {M : Nat → Prop} {m : Nat} {H : Heap} {n : Nat} {κ : K1} {w : World}

theorem new_sound {v : SV} {e : Nat} {s : Sem Next} (hH : HR B H w) (hw : hwf n H) (hown : Own M m B H) (hM : M w.heap.size) (hv : v.wf n) (h : newVC v e H n κ)
    (hr : s.run P w = .ok (.value (.pointer (some ⟨w.heap.size, 0, none⟩))) (w.alloc (.cells (v.den B).cells e))) : EffRes P B M m n w s κ := by
  unfold newVC at h
  split at h
  · rename_i o ho
    obtain ⟨h1, h2, h3, h4⟩ := blockOf_spec ho B
    refine ⟨.ptr n 0, _, _, upd B n w.heap.size, .pointer (some ⟨w.heap.size, 0, none⟩), _, h, by omega, by simp [SV.wf], hwf_cons (hwf_mono (by omega) hw) (by omega) (SObj.wf_mono (by omega) o (h4 n hv)), upd_lt _ _ _, HR.new hH hw h1 (blockOf_full ho) (h4 n hv), Kept.alloc _ _, Own.new hown hw hM, fun _ => ?_, .inl ?_⟩
    · simp [SV.den, upd_self]
    · rw [h2]; exact hr
  · exact h.elim

theorem run_storeAt {t : TypeId} {a : Nat} {off e : Nat} {x : Value} {c : Array Value} (hτ : TysOK P τ) (hk : (τ t).k ≠ .other) (hb : w.heap[a]? = some (.cells c e (0, 0)))
    (hs : x.cells.size = (τ t).size) (hl : off + x.cells.size ≤ c.size) (h1 : ∀ v ∈ x.cells.toList, v.oneCell' = true) :
    (Instr.storeAt t (.pointer (some ⟨a, off, none⟩)) x).run P w = .ok () (w.setRow a (c.toList.take off ++ x.cells.toList ++ c.toList.drop (off + x.cells.size)).toArray) := by
  have := run_storeCells_at P a off e x.cells.toList 0 c w hb (by simpa using hl) h1
  simp only [Nat.add_zero, Array.length_toList] at this
  simp [Instr.storeAt, Instr.sureAddr, storeVar, run_info hτ hk, hs]
  simpa [hs] using this

theorem set_splice {α : Type} (L : List α) (off : Nat) (x : α) (h : off < L.length) : L.take off ++ [x] ++ L.drop (off + 1) = L.set off x := by
  rw [List.set_eq_take_append_cons_drop, if_pos h]; simp

theorem oneCell_ints (L : List Int) : ∀ v ∈ (ints L).toList, v.oneCell' = true := by
  intro v hv
  simp at hv
  obtain ⟨x, _, rfl⟩ := hv
  rfl
theorem oneCell_bls (L : List Bool) : ∀ v ∈ (bls L).toList, v.oneCell' = true := by
  intro v hv
  simp at hv
  rcases hv with ⟨_, rfl⟩ | ⟨_, rfl⟩ <;> rfl

theorem store_sound {t : TypeId} {a v : SV} (hτ : TysOK P τ) (hH : HR B H w) (hw : hwf n H) (hown : Own M m B H) (hv : v.wf n) (h : storeVC m (τ t) a v H n κ) :
    EffRes P B M m n w (do Instr.storeAt t (a.den B) (v.den B); pure .skip) κ := by
  unfold storeVC at h
  split at h
  · rename_i b off
    obtain ⟨hm, hko, h⟩ := h
    have fin : ∀ (o o' : SObj) (c0 cs : Array Value) (e : Nat), hget H b = some o → o.live = true → w.heap[B b]? = some (.cells c0 e (0, 0)) → o'.den B = .cells cs e (0, 0) → o'.full = true → o'.wf n →
        (Instr.storeAt t (SV.den B (.ptr b off)) (v.den B)).run P w = .ok () (w.setRow (B b) cs) → κ .und ((b, o') :: H) n → EffRes P B M m n w (do Instr.storeAt t (SV.den B (.ptr b off)) (v.den B); pure .skip) κ := by
      intro o o' c0 cs e hg hl hd hd' hl' hwf' hr hκ
      exact ⟨.und, _, n, B, undef, _, hκ, Nat.le_refl _, trivial, hwf_cons hw (hw b o hg).1 hwf', fun _ _ => rfl, hH.set hg hl c0 hd hd' hl', Kept.setRow w _ _ (hown b o hg hl hm), hown.set hg hl, fun _ => rfl, .inr ⟨by simp [hr], rfl⟩⟩
    unfold storeB at h
    split at h
    · rename_i L e hg
      have hb := hH.at_ b _ hg rfl
      split at h
      · rename_i x
        obtain ⟨hs, hl, h⟩ := h
        refine fin _ (.ints (L.set off x) e) (ints L) (ints (L.set off x)) e hg rfl hb rfl rfl trivial ?_ h
        have := run_storeAt (P := P) (off := off) (x := .int .i64 x) hτ hko hb (by simp [hs, Value.cells]) (by simp [Value.cells]; omega) (by intro v hv; simp [Value.cells] at hv; subst hv; rfl)
        simp only [SV.den]
        rw [this]
        congr 2
        simp only [Value.cells, toList_ints, List.size_toArray, List.length_cons, List.length_nil]
        have h2 := set_splice (L.map (Value.int .i64)) off (.int .i64 x) (by simpa using hl)
        rw [Nat.zero_add, h2]
        simp [ints, List.map_set]
      · rename_i N
        obtain ⟨hs, hl, h⟩ := h
        refine fin _ (.ints (L.take off ++ N ++ L.drop (off + N.length)) e) (ints L) (ints (L.take off ++ N ++ L.drop (off + N.length))) e hg rfl hb rfl rfl trivial ?_ h
        have := run_storeAt (P := P) (off := off) (x := .agg (ints N)) hτ hko hb (by simp [hs, Value.cells]) (by simp [Value.cells]; omega) (by simpa [Value.cells] using oneCell_ints N)
        simp only [SV.den]
        rw [this]
        congr 2
        simp [Value.cells, ints, List.map_take, List.map_drop]
      · exact h.elim
    · rename_i L e hg
      have hb := hH.at_ b _ hg rfl
      split at h
      · rename_i x
        obtain ⟨hs, hl, h⟩ := h
        refine fin _ (.bls (L.set off x) e) (bls L) (bls (L.set off x)) e hg rfl hb rfl rfl trivial ?_ h
        have := run_storeAt (P := P) (off := off) (x := .bool x) hτ hko hb (by simp [hs, Value.cells]) (by simp [Value.cells]; omega) (by intro v hv; simp [Value.cells] at hv; subst hv; rfl)
        simp only [SV.den]
        rw [this]
        congr 2
        simp only [Value.cells, toList_bls, List.size_toArray, List.length_cons, List.length_nil]
        have h2 := set_splice (L.map Value.bool) off (.bool x) (by simpa using hl)
        rw [Nat.zero_add, h2]
        simp [bls, List.map_set]
      · rename_i N
        obtain ⟨hs, hl, h⟩ := h
        refine fin _ (.bls (L.take off ++ N ++ L.drop (off + N.length)) e) (bls L) (bls (L.take off ++ N ++ L.drop (off + N.length))) e hg rfl hb rfl rfl trivial ?_ h
        have := run_storeAt (P := P) (off := off) (x := .agg (bls N)) hτ hko hb (by simp [hs, Value.cells]) (by simp [Value.cells]; omega) (by simpa [Value.cells] using oneCell_bls N)
        simp only [SV.den]
        rw [this]
        congr 2
        simp [Value.cells, bls, List.map_take, List.map_drop]
      · exact h.elim
    · rename_i l e hg
      have hb := hH.at_ b _ hg rfl
      split at h
      · rename_i M
        obtain ⟨h1, hs, hl, h⟩ := h
        have hM1 : ∀ x ∈ M, oneCellS x = true := fun x hx => List.all_eq_true.1 h1 x hx
        refine fin _ (.cells (l.take off ++ M ++ l.drop (off + M.length)) e) (denL B l).toArray (denL B (l.take off ++ M ++ l.drop (off + M.length))).toArray e hg rfl hb rfl rfl ?_ ?_ h
        · simp only [SObj.wf, wfL_iff]
          intro x hx
          have hwl := (wfL_iff n l).1 (hw b _ hg).2
          rcases List.mem_append.1 hx with hx | hx
          · rcases List.mem_append.1 hx with hx | hx
            · exact hwl x (List.mem_of_mem_take hx)
            · exact (wfL_iff n M).1 (by simpa [SV.wf] using hv) x hx
          · exact hwl x (List.mem_of_mem_drop hx)
        · have := run_storeAt (P := P) (off := off) (x := .agg (denL B M).toArray) hτ hko hb (by simp [hs, Value.cells]) (by simp [Value.cells]; omega) (by
            intro x hx
            simp only [Value.cells, denL_map, List.mem_map] at hx
            obtain ⟨y, hy, rfl⟩ := hx
            exact (oneCell_den (hM1 y hy) B).2)
          simp only [SV.den] at this ⊢
          rw [this]
          congr 2
          simp [Value.cells, denL_map, List.map_take, List.map_drop]
      obtain ⟨h1, hs, hl, h⟩ := h
      have hc : (v.den B).cells = #[v.den B] ∧ (v.den B).oneCell' = true := oneCell_den h1 B
      refine fin _ (.cells (l.set off v) e) (denL B l).toArray (denL B (l.set off v)).toArray e hg rfl hb rfl rfl ?_ ?_ h
      · simp only [SObj.wf, wfL_iff]
        intro x hx
        rcases List.mem_or_eq_of_mem_set hx with hx | rfl
        · exact (wfL_iff n l).1 (hw b _ hg).2 x hx
        · exact hv
      · have := run_storeAt (P := P) (off := off) (x := v.den B) hτ hko hb (by simp [hs, hc.1]) (by simp [hc.1]; omega) (by intro x hx; rw [hc.1] at hx; simp at hx; subst hx; exact hc.2)
        simp only [SV.den] at this ⊢
        rw [this]
        congr 2
        simp only [hc.1, List.size_toArray, List.length_cons, List.length_nil]
        have h2 := set_splice (denL B l) off (v.den B) (by simpa using hl)
        rw [Nat.zero_add, h2]
        simp [denL_map, List.map_set]
    · exact h.elim
  · exact h.elim

theorem zero_of {e : TypeId} (hτ : TysOK P τ) (hk : (τ e).k ≠ .other) (hz : isZ (τ e).z (τ e).size = true) : ∃ z, (∀ w, (zeroValue e).run P w = .ok z w) ∧ z.cells = ints (List.replicate (τ e).size 0) ∧ ∀ i, P.info? e = some i → i.zero = some z := by
  obtain ⟨i, hi, hs, _, h⟩ := ty_info hτ hk
  cases hq : (τ e).z <;> simp [hq, isZ] at hz
  · rename_i x
    split at hz
    · rename_i h0; cases h0
      have hz' := h (by rw [hq]; rfl)
      rw [hq] at hz'
      simp at hz
      exact ⟨.int .i64 0, fun w => by simp [zeroValue, typeInfo, hi, hz', SV.den], by rw [hz]; rfl, fun j hj => by rw [hi] at hj; cases hj; exact hz'⟩
    · rename_i h0; cases h0
    · cases hz
  · rename_i L
    have hz' := h (by rw [hq]; rfl)
    rw [hq] at hz'
    subst hz
    exact ⟨.agg (ints (List.replicate (τ e).size 0)), fun w => by simp [zeroValue, typeInfo, hi, hz', SV.den], rfl, fun j hj => by rw [hi] at hj; cases hj; exact hz'⟩

theorem run_newRow' (e : TypeId) (cs : Array Value) (w : World) : (newRow e cs).run P w = .ok ⟨w.heap.size, 0, none⟩ (w.alloc (.cells cs e)) := rfl
theorem zeroRow (s k : Nat) (hs : 0 < s) : (Array.range (k * s)).map (fun i => (ints (List.replicate s 0))[i % (ints (List.replicate s 0)).size]!) = ints (List.replicate (k * s) 0) := by
  apply Array.ext'
  simp only [Array.toList_map, Array.toList_range, toList_ints, size_ints, List.length_replicate, List.map_replicate]
  rw [List.eq_replicate_iff]
  refine ⟨by simp, fun b hb => ?_⟩
  obtain ⟨i, _, rfl⟩ := List.mem_map.1 hb
  have hlt : i % s < s := Nat.mod_lt _ hs
  rw [getElem!_def, get_ints]
  simp [hlt]

theorem res_new {o : SObj} {v : SV} {x : Value} {s : Sem Next} (hH : HR B H w) (hw : hwf n H) (hown : Own M m B H) (hM : M w.heap.size) (ho : o.live = true) (hfl : o.full = true) (hwo : o.wf n) (hκ : κ v ((n, o) :: H) (n + 1)) (hv : SV.wf (n + 1) v)
    (hx : x = v.den (upd B n w.heap.size)) (w' : World) (hw' : w'.heap = (w.alloc (o.den B)).heap) (hk : Kept M w w') (hr : s.run P w = .ok (.value x) w') : EffRes P B M m n w s κ := by
  have h1 := HR.new hH hw ho hfl hwo
  refine ⟨v, _, _, upd B n w.heap.size, x, w', hκ, by omega, hv, hwf_cons (hwf_mono (by omega) hw) (by omega) (SObj.wf_mono (by omega) o hwo), upd_lt _ _ _, ?_, hk, Own.new hown hw hM, fun _ => hx, .inl hr⟩
  exact ⟨fun k o' hl hk' => SObj.sat_heap (by rw [hw']) (h1.at_ k o' hl hk'), h1.inj⟩

theorem buildSlice_sound {t : TypeId} {len : Nat} {parts : List (Nat × SV)} (hτ : TysOK P τ) (hH : HR B H w) (hw : hwf n H) (hown : Own M m B H) (hM : M w.heap.size) (h : buildSliceVC τ (τ t) len parts H n κ) :
    EffRes P B M m n w (do pure (.value (← Instr.buildSlice t len (parts.map fun p => (p.1, p.2.den B)).toArray))) κ := by
  unfold buildSliceVC at h
  split at h
  · rename_i e hk
    obtain ⟨h1, h2, h3, h4, h⟩ := h
    split at h
    · rename_i L hL
      obtain ⟨z, hz, hzc, _⟩ := zero_of hτ h1 h2
      have hf := fill_sound (B := B) _ _ _ hL
      refine res_new (o := .ints L e) (x := .slice (some ⟨w.heap.size, 0, none⟩) len len) hH hw hown hM rfl rfl trivial h (by simp [SV.wf]) (by simp [SV.den, upd_self]) (w.alloc (.cells (ints L) e)) rfl (Kept.alloc _ _) ?_
      have h5 : ¬ len * (τ e).size > 2 ^ 24 := by simp; omega
      have hf' : Instr.fill (fun i => some (i * (τ e).size, (τ e).size)) (ints (List.replicate (len * (τ e).size) 0)) (parts.map fun p => (p.1, p.2.den B)) = some (ints L) := hf
      by_cases h0 : len * (τ e).size = 0
      · have hr0 : (Array.range 0).map (fun i => (#[] : Array Value)[i % (#[] : Array Value).size]!) = ints (List.replicate (len * (τ e).size) 0) := by rw [h0]; simp [ints]
        rw [h0] at hr0
        rw [h0] at hf'
        have h6 : ¬ (0 > 2 ^ 24) := by simp
        simp only [Instr.buildSlice, Sem.run_bind, run_underlying (und_sl hτ hk), Result.andThen_ok, run_info hτ h1, h0, h6, if_false, if_true, Sem.run_pure, hr0, hf', run_newRow']
      · have hrow := zeroRow (τ e).size len h3
        rw [← hzc] at hrow
        simp only [Instr.buildSlice, Sem.run_bind, run_underlying (und_sl hτ hk), Result.andThen_ok, run_info hτ h1, h5, h0, if_false, Sem.run_pure, hz w, hrow, hf', run_newRow']
    · exact h.elim
  · exact h.elim

theorem zeroRowN (k : Nat) : (Array.range k).map (fun i => (#[Value.slice none 0 0])[i % (#[Value.slice none 0 0]).size]!) = (List.replicate k (Value.slice none 0 0)).toArray := by
  apply Array.ext'
  simp only [Array.toList_map, Array.toList_range, List.size_toArray, List.length_cons, List.length_nil, Nat.zero_add, Nat.mod_one]
  rw [List.eq_replicate_iff]
  refine ⟨by simp, fun b hb => ?_⟩
  obtain ⟨i, _, rfl⟩ := List.mem_map.1 hb
  rfl
theorem makeSlice_sound {t : TypeId} {l c : SV} (hτ : TysOK P τ) (hH : HR B H w) (hw : hwf n H) (hown : Own M m B H) (hM : M w.heap.size) (h : makeSliceVC τ (τ t) l c H n κ) :
    EffRes P B M m n w (do pure (.value (← Instr.makeSlice t (l.den B) (c.den B)))) κ := by
  unfold makeSliceVC at h
  split at h
  · rename_i e x y hk
    obtain ⟨h1, h3, h4, h5, h6, h7, h⟩ := h
    obtain ⟨i, hi, his, hib, hzi⟩ := ty_info hτ h1
    have wx : IntKind.i64.wrap x = x := IntWalk.i64_in x (by omega)
    have wy : IntKind.i64.wrap y = y := IntWalk.i64_in y (by omega)
    have hy0 : ¬ (y < 0) := by omega
    have hx0 : ¬ (x < 0) := by omega
    have hxy : ¬ (x > y) := by omega
    have hbig : ¬ ((τ e).bytes * y > 2 ^ 48) := by omega
    have hroom : ¬ (y.toNat * (τ e).bytes > roomBytes) := by
      unfold roomBytes
      have e1 : ((y.toNat * (τ e).bytes : Nat) : Int) = (τ e).bytes * y := by push_cast; rw [Int.toNat_of_nonneg (by omega), Int.mul_comm]
      omega
    have hti : (typeInfo e).run P w = .ok i w := by simp [typeInfo, hi]
    split at h
    · rename_i hz
      obtain ⟨hs1, h⟩ := h
      have hz1 : (zeroValue e).run P w = .ok (.slice none 0 0) w := by
        have := hzi (by rw [hz]; rfl)
        rw [hz] at this
        simp [zeroValue, typeInfo, hi, this, SV.den]
      refine res_new (o := .cells (List.replicate y.toNat .nils) e) (x := .slice (some ⟨w.heap.size, 0, none⟩) x.toNat y.toNat) hH hw hown hM rfl rfl (by simp only [SObj.wf, wfL_iff]; intro v hv; obtain rfl := (List.mem_replicate.1 hv).2; trivial) h (by simp [SV.wf]) (by simp [SV.den, upd_self]) (w.alloc (.cells (List.replicate y.toNat (Value.slice none 0 0)).toArray e)) (by simp [SObj.den, denL_map, SV.den]) (Kept.alloc _ _) ?_
      simp only [Instr.makeSlice, Sem.run_bind, run_underlying (und_sl hτ hk), Result.andThen_ok, SV.den, asInt, asIntOf, Sem.run_pure, hti, hib, wx, wy]
      simp only [hy0, hx0, hxy, hbig, decide_false, Bool.or_false, Bool.false_eq_true, if_false, askRoom, hroom, Sem.run_pure, Sem.run_bind, Result.andThen_ok, run_info hτ h1, hs1, Nat.mul_one]
      by_cases h0 : y.toNat = 0
      · have hr0 : (Array.range 0).map (fun i => (#[] : Array Value)[i % (#[] : Array Value).size]!) = (List.replicate y.toNat (Value.slice none 0 0)).toArray := by rw [h0]; simp
        rw [h0] at hr0
        simp only [h0, if_true, Sem.run_pure, Sem.run_bind, Result.andThen_ok, hr0, run_newRow']
      · have hrow := zeroRowN y.toNat
        have hcl : (Value.slice none 0 0).cells = #[Value.slice none 0 0] := rfl
        simp only [h0, if_false, Sem.run_pure, Sem.run_bind, Result.andThen_ok, hz1, hcl, hrow, run_newRow']
    obtain ⟨h2, h⟩ := h
    obtain ⟨z, hz, hzc, _⟩ := zero_of hτ h1 h2
    refine res_new (o := .ints (List.replicate (y.toNat * (τ e).size) 0) e) (x := .slice (some ⟨w.heap.size, 0, none⟩) x.toNat y.toNat) hH hw hown hM rfl rfl trivial h (by simp [SV.wf]) (by simp [SV.den, upd_self]) (w.alloc (.cells (ints (List.replicate (y.toNat * (τ e).size) 0)) e)) rfl (Kept.alloc _ _) ?_
    simp only [Instr.makeSlice, Sem.run_bind, run_underlying (und_sl hτ hk), Result.andThen_ok, SV.den, asInt, asIntOf, Sem.run_pure, hti, hib, wx, wy]
    simp only [hy0, hx0, hxy, hbig, decide_false, Bool.or_false, Bool.false_eq_true, if_false, askRoom, hroom, Sem.run_pure, Sem.run_bind, Result.andThen_ok, run_info hτ h1]
    by_cases h0 : y.toNat * (τ e).size = 0
    · have hr0 : (Array.range 0).map (fun i => (#[] : Array Value)[i % (#[] : Array Value).size]!) = ints (List.replicate (y.toNat * (τ e).size) 0) := by rw [h0]; simp [ints]
      rw [h0] at hr0
      simp only [h0, if_true, Sem.run_pure, Sem.run_bind, Result.andThen_ok, hr0, run_newRow']
    · have hrow := zeroRow (τ e).size y.toNat h3
      rw [← hzc] at hrow
      simp only [h0, if_false, Sem.run_pure, Sem.run_bind, Result.andThen_ok, hz w, hrow, run_newRow']
  · exact h.elim

theorem HR.kill {B : Nat → Nat} {H : Heap} {w : World} (h : HR B H w) (b : Nat) : HR B ((b, .dead) :: H) w := by
  refine ⟨fun k o hl hk => ?_, fun k j o1 o2 h1 h2 h3 h4 he => ?_⟩
  · rw [hget_cons] at hl
    split at hl
    · cases hl; cases hk
    · exact h.at_ k o hl hk
  · rw [hget_cons] at h1 h3
    split at h1
    · cases h1; cases h2
    · split at h3
      · cases h3; cases h4
      · exact h.inj k j o1 o2 h1 h2 h3 h4 he
theorem Own.kill {B : Nat → Nat} {H : Heap} (h : Own M m B H) (b : Nat) : Own M m B ((b, .dead) :: H) := by
  intro k o hl hk hm
  rw [hget_cons] at hl
  split at hl
  · cases hl; cases hk
  · exact h k o hl hk hm
/-- A block that goes on under a new name. -/
theorem HR.move {B : Nat → Nat} {H : Heap} {n : Nat} {w : World} {b : Nat} {o o' : SObj} {c0 cs : Array Value} {e : Nat} (h : HR B H w) (hw : hwf n H) (hb : hget H b = some o) (ho : o.live = true) (hat : w.heap[B b]? = some (.cells c0 e (0, 0))) (hd : o'.den (upd B n (B b)) = .cells cs e (0, 0)) (hf' : o'.full = true) :
    HR (upd B n (B b)) ((n, o') :: (b, .dead) :: H) (w.setRow (B b) cs) := by
  have hag := upd_lt B n (B b)
  have hbn := (hw b o hb).1
  refine ⟨fun k o1 hl hk => ?_, fun k j o1 o2 h1 h2 h3 h4 he => ?_⟩
  · rw [hget_cons] at hl
    split at hl
    · rename_i hkn; subst hkn; cases hl
      rw [upd_self]
      exact SObj.sat_of_den hf' (by rw [hd]; exact setRow_heap w _ _ _ _ _ hat)
    · rw [hget_cons] at hl
      split at hl
      · cases hl; cases hk
      · rename_i hkb
        have hkn := hw k o1 hl
        rw [hag k hkn.1]
        exact SObj.sat_congr hag o1 hkn.2 (SObj.sat_heap (setRow_other w _ _ _ (fun e => hkb (h.inj k b o1 o hl hk hb ho e))) (h.at_ k o1 hl hk))
  · rw [hget_cons] at h1 h3
    split at h1
    · rename_i hk
      split at h3
      · rename_i hj; omega
      · rw [hget_cons] at h3
        split at h3
        · cases h3; cases h4
        · rename_i hjb
          subst hk
          rw [upd_self, hag j (hw j o2 h3).1] at he
          exact absurd (h.inj j b o2 o h3 h4 hb ho he.symm) hjb
    · rw [hget_cons] at h1
      split at h1
      · cases h1; cases h2
      · rename_i hkb
        split at h3
        · rename_i hj
          subst hj
          rw [upd_self, hag k (hw k o1 h1).1] at he
          exact absurd (h.inj k b o1 o h1 h2 hb ho he) hkb
        · rw [hget_cons] at h3
          split at h3
          · cases h3; cases h4
          · rw [hag k (hw k o1 h1).1, hag j (hw j o2 h3).1] at he
            exact h.inj k j o1 o2 h1 h2 h3 h4 he

theorem src_sound {es : Nat} {x : SV} {κ' : List Int → Nat → Prop} (hH : HR B H w) (h : srcVC es x H κ') :
    ∃ (a : Addr) (k c : Nat) (news : List Int), x.den B = .slice (some a) k c ∧ 0 < k ∧ news.length = k * es ∧ κ' news k ∧ ∀ j u, (news.map (Value.int .i64))[j]? = some u → w.cell? (a.add j) = some u := by
  unfold srcVC at h
  split at h
  · rename_i b off len cap
    split at h
    · rename_i L e hg
      obtain ⟨h1, h2, h3⟩ := h
      refine ⟨⟨B b, off, none⟩, len, cap, (L.drop off).take (len * es), rfl, h1, by simp; omega, h3, fun j u hj => ?_⟩
      have hb := hH.at_ b _ hg rfl
      rw [add_addr]
      refine cell_at hb ?_
      rw [get_ints]
      have hjl : j < len * es := by
        rcases Nat.lt_or_ge j (len * es) with h | h
        · exact h
        · rw [List.getElem?_eq_none (by simp; omega)] at hj; cases hj
      rw [List.getElem?_map, List.getElem?_take, if_pos hjl, List.getElem?_drop] at hj
      exact hj
    · exact h.elim
  · exact h.elim

theorem zeroCells_ints (s k : Nat) (hs : 0 < s) : Builtin.zeroCells (ints (List.replicate s 0)) k = ints (List.replicate (k * s) 0) := by
  unfold Builtin.zeroCells
  have := zeroRow s k hs
  simpa using this

theorem append_sound {t ty : TypeId} {s x : SV} (hws : s.wf n) (hτ : TysOK P τ) (hH : HR B H w) (hw : hwf n H) (hown : Own M m B H) (hM : M w.heap.size) (h : appendVC τ m (τ t) s x H n κ) :
    EffRes P B M m n w (do pure (.value (← Builtin.append_ #[t, t] ty #[s.den B, x.den B]))) κ := by
  unfold appendVC at h
  split at h
  · rename_i e hk
    obtain ⟨h1, h2, h3, h⟩ := h
    obtain ⟨z, hz, hzc, hzi⟩ := zero_of hτ h1 h2
    obtain ⟨i, hi, his, hib, _⟩ := ty_info hτ h1
    have hzi' := hzi i hi
    have hsl := und_sl hτ hk
    cases hse : srcE x with
    | true =>
      rw [hse] at h
      have hx0 : (∃ a c, x.den B = .slice (some a) 0 c) ∨ x.den B = .slice none 0 0 := by
        unfold srcE at hse
        split at hse
        · exact .inl ⟨_, _, rfl⟩
        · exact .inr rfl
        · cases hse
      have hfc : ∀ w', (Builtin.firstCells (τ e).size 0 (x.den B)).run P w' = .ok #[] w' := fun w' => by
        rcases hx0 with ⟨a, c, e⟩ | e <;> rw [e] <;> simp [Builtin.firstCells, loadCells, loadCellsFrom]
      have hlo : ∀ w', (Builtin.lenOf (x.den B)).run P w' = .ok 0 w' := fun w' => by
        rcases hx0 with ⟨a, c, e⟩ | e <;> rw [e] <;> simp [Builtin.lenOf]
      have fin : ∀ (base : Option Addr) (len cap : Nat), len ≤ cap → (Builtin.append_ #[t, t] ty #[.slice base len cap, x.den B]).run P w = .ok (.slice base len cap) w := by
        intro base len cap hlc
        cases base <;> simp [Builtin.append_, run_underlying hsl, run_info hτ h1, hlo, hfc, hlc, storeCells]
      have h' : keepVC s H n κ := h
      clear h
      unfold keepVC at h'
      split at h'
      · rename_i b len cap
        refine ⟨.slice b 0 len cap, H, n, B, .slice (some ⟨B b, 0, none⟩) len cap, w, h'.2, Nat.le_refl _, hws, hw, fun _ _ => rfl, hH, Kept.refl _ _, hown, fun _ => rfl, .inl ?_⟩
        simp [SV.den, fin _ _ _ h'.1]
      · refine ⟨.nils, H, n, B, .slice none 0 0, w, h', Nat.le_refl _, trivial, hw, fun _ _ => rfl, hH, Kept.refl _ _, hown, fun _ => rfl, .inl ?_⟩
        simp [SV.den, fin _ _ _ (Nat.le_refl 0)]
      · exact h'.elim
    | false =>
    rw [hse] at h
    simp only at h
    split at h
    · obtain ⟨a, k, c, news, hx, hk0, hnl, ⟨h4, h5, h6⟩, hnews⟩ := src_sound hH h
      have hr := run_append_nil (P := P) w t ty e i z hsl hi hzi' a k c (news.map (Value.int .i64)) (by simp [hnl, his]) hnews hk0 (by omega) (by rw [hib]; omega)
      rw [hx]
      simp only [SV.den]
      have hc := grownCap_ge w k 0 e
      have e1 : (news.map (Value.int .i64)).toArray ++ Builtin.zeroCells z.cells (grownCap w k 0 e - k) = ints (news ++ List.replicate ((grownCap w k 0 e - k) * (τ e).size) 0) := by
        rw [hzc, zeroCells_ints _ _ h3]; simp [ints]
      rw [e1] at hr
      have hlen : (List.replicate ((grownCap w k 0 e - k) * (τ e).size) (0 : Int)).length + k * (τ e).size = grownCap w k 0 e * (τ e).size := by
        rw [List.length_replicate, ← Nat.add_mul]; congr 1; omega
      refine res_new (o := .ints (news ++ List.replicate ((grownCap w k 0 e - k) * (τ e).size) 0) e) hH hw hown hM rfl rfl trivial (x := .slice (some ⟨w.heap.size, 0, none⟩) k (grownCap w k 0 e)) (h6 _ _ hlen) (by simp [SV.wf]) (by simp [SV.den, upd_self]) (w.drew.alloc (.cells (ints (news ++ List.replicate ((grownCap w k 0 e - k) * (τ e).size) 0)) e)) rfl ((Kept.drew w).trans (Kept.alloc _ _)) (by simp [hr])
    · rename_i b len cap
      split at h
      · rename_i L e' hg
        obtain ⟨hm, rfl, hL, hlc, h⟩ := h
        obtain ⟨a, k, c, news, hx, hk0, hnl, ⟨h4, h5, h6⟩, hnews⟩ := src_sound hH h
        have hb := hH.at_ b _ hg rfl
        rw [hx]
        simp only [SV.den]
        have hpre : (L.take (len * (τ e').size)).length = len * (τ e').size := by rw [List.length_take, hL]; exact Nat.min_eq_left (Nat.mul_le_mul_right _ hlc)
        by_cases hroom : len + k ≤ cap
        · have hfit : len * (τ e').size + k * (τ e').size ≤ cap * (τ e').size := by rw [← Nat.add_mul]; exact Nat.mul_le_mul_right _ hroom
          have hr := run_append_room (P := P) w t ty e' i hsl hi (B b) len cap (ints L) hb a k c (news.map (Value.int .i64)) (by simp [hnl, his]) hnews (by intro u hu; simp at hu; obtain ⟨x, _, rfl⟩ := hu; rfl) hroom (by rw [his]; simp [hnl, hL]; exact hfit)
          have e1 : (((ints L).toList.take (len * i.size) ++ news.map (Value.int .i64) ++ (ints L).toList.drop (len * i.size + (news.map (Value.int .i64)).length)).toArray) = ints (L.take (len * (τ e').size) ++ news ++ L.drop (len * (τ e').size + k * (τ e').size)) := by
            rw [his]; simp [ints, hnl, List.map_take, List.map_drop]
          rw [e1] at hr
          have hlen : (L.drop (len * (τ e').size + k * (τ e').size)).length + (len + k) * (τ e').size = cap * (τ e').size := by
            rw [List.length_drop, hL, Nat.add_mul]; omega
          refine ⟨_, _, n + 1, upd B n (B b), .slice (some ⟨B b, 0, none⟩) (len + k) cap, _, h6 _ _ hlen, by omega, by simp [SV.wf], ?_, upd_lt _ _ _, HR.move (cs := ints (L.take (len * (τ e').size) ++ news ++ L.drop (len * (τ e').size + k * (τ e').size))) hH hw hg rfl hb rfl rfl, Kept.setRow w _ _ (hown b _ hg rfl hm), ?_, fun _ => by simp [SV.den, upd_self], .inl (by simp [hr])⟩
          · exact hwf_cons (hwf_cons (hwf_mono (by omega) hw) (by have := (hw b _ hg).1; omega) trivial) (by omega) trivial
          · exact Own.new (hown.kill b) (hwf_cons hw (hw b _ hg).1 trivial) (hown b _ hg rfl hm)
        · have holds : ∀ j u, ((L.take (len * (τ e').size)).map (Value.int .i64))[j]? = some u → w.cell? ((⟨B b, 0, none⟩ : Addr).add j) = some u := by
            intro j u hj
            rw [add_addr]
            refine cell_at hb ?_
            rw [get_ints]
            have hjl : j < len * (τ e').size := by
              rcases Nat.lt_or_ge j (len * (τ e').size) with h | h
              · exact h
              · rw [List.getElem?_eq_none (by simp; omega)] at hj; cases hj
            rw [List.getElem?_map, List.getElem?_take, if_pos hjl] at hj
            rw [Nat.zero_add]; exact hj
          have hr := run_append_grow (P := P) w t ty e' i z hsl hi hzi' ⟨B b, 0, none⟩ len cap ((L.take (len * (τ e').size)).map (Value.int .i64)) (by rw [List.length_map, hpre, his]) holds a k c (news.map (Value.int .i64)) (by simp [hnl, his]) hnews (by omega) (by omega) (by rw [hib]; exact growslice_fits (by omega) h4)
          have hc := grownCap_ge w (len + k) cap e'
          have e1 : ((L.take (len * (τ e').size)).map (Value.int .i64)).toArray ++ (news.map (Value.int .i64)).toArray ++ Builtin.zeroCells z.cells (grownCap w (len + k) cap e' - (len + k)) = ints (L.take (len * (τ e').size) ++ news ++ List.replicate ((grownCap w (len + k) cap e' - (len + k)) * (τ e').size) 0) := by
            rw [hzc, zeroCells_ints _ _ h3]; simp [ints, List.map_take]
          rw [e1] at hr
          have hlen : (List.replicate ((grownCap w (len + k) cap e' - (len + k)) * (τ e').size) (0 : Int)).length + (len + k) * (τ e').size = grownCap w (len + k) cap e' * (τ e').size := by
            rw [List.length_replicate, ← Nat.add_mul]; congr 1; omega
          refine res_new (o := .ints (L.take (len * (τ e').size) ++ news ++ List.replicate ((grownCap w (len + k) cap e' - (len + k)) * (τ e').size) 0) e') (x := .slice (some ⟨w.heap.size, 0, none⟩) (len + k) (grownCap w (len + k) cap e')) (hH.kill b) (hwf_cons hw (hw b _ hg).1 trivial) (hown.kill b) hM rfl rfl trivial (h6 _ _ hlen) (by simp [SV.wf]) (by simp [SV.den, upd_self]) (w.drew.alloc (.cells (ints (L.take (len * (τ e').size) ++ news ++ List.replicate ((grownCap w (len + k) cap e' - (len + k)) * (τ e').size) 0)) e')) rfl ((Kept.drew w).trans (Kept.alloc _ _)) (by simp [hr])
      · exact h.elim
    · exact h.elim
  · exact h.elim
theorem clear_sound {t ty : TypeId} {s : SV} (hτ : TysOK P τ) (hH : HR B H w) (hw : hwf n H) (hown : Own M m B H) (h : clearVC τ m (τ t) s H n κ) :
    EffRes P B M m n w (do pure (.value (← Builtin.clear_ #[t] ty #[s.den B]))) κ := by
  unfold clearVC at h
  split at h
  · rename_i e hk
    obtain ⟨h1, h2, h3, h⟩ := h
    split at h
    · rename_i b off len cap
      split at h
      · rename_i L e' hg
        obtain ⟨hm, h0, hl, h⟩ := h
        have hb := hH.at_ b _ hg rfl
        obtain ⟨z, hz, hzc, _⟩ := zero_of hτ h1 h2
        refine ⟨.tup [], _, n, B, .tuple #[], _, h, Nat.le_refl _, by simp [SV.wf, wfL], hwf_cons hw (hw b _ hg).1 trivial, fun _ _ => rfl, hH.set (o' := .ints (L.take off ++ List.replicate (len * (τ e).size) 0 ++ L.drop (off + len * (τ e).size)) e') hg rfl (ints L) hb rfl rfl, Kept.setRow w _ _ (hown b _ hg rfl hm), hown.set hg rfl, fun _ => by simp [SV.den, denL], .inl ?_⟩
        have hst := run_storeCells_at P (B b) off e' (ints (List.replicate (len * (τ e).size) 0)).toList 0 (ints L) w hb (by simpa using hl) (oneCell_ints _)
        simp only [Nat.add_zero, Array.length_toList] at hst
        have e1 : ((ints L).toList.take off ++ (ints (List.replicate (len * (τ e).size) 0)).toList ++ (ints L).toList.drop (off + (ints (List.replicate (len * (τ e).size) 0)).size)).toArray = ints (L.take off ++ List.replicate (len * (τ e).size) 0 ++ L.drop (off + len * (τ e).size)) := by
          simp [ints, List.map_take, List.map_drop]
        rw [e1] at hst
        obtain ⟨len', rfl⟩ : ∃ k, len = k + 1 := ⟨len - 1, by omega⟩
        simp only [Builtin.clear_, SV.den, Sem.run_bind, run_underlying (und_sl hτ hk), Result.andThen_ok, hz w, hzc, zeroCells_ints _ _ h3, hst, Sem.run_pure, List.getElem?_toArray, List.getElem?_cons_zero]
      · exact h.elim
    · exact h.elim
  · exact h.elim
/-! Maps. -/
theorem HR.setM {b : Nat} {o o' : SObj} (h : HR B H w) (hb : hget H b = some o) (ho : o.live = true) (hf' : o'.full = true) : HR B ((b, o') :: H) { w with heap := w.heap.setIfInBounds (B b) (o'.den B) } := by
  have hlt := h.lt hb ho
  refine ⟨fun k o1 hl hk => ?_, fun k j o1 o2 h1 h2 h3 h4 he => ?_⟩
  · rw [hget_cons] at hl
    split at hl
    · rename_i hkb
      subst hkb
      cases hl
      exact SObj.sat_of_den hf' (by simp [hlt])
    · rename_i hkb
      have hne : B k ≠ B b := fun e => hkb (h.inj k b o1 o hl hk hb ho e)
      exact SObj.sat_heap (by simp [Ne.symm hne]) (h.at_ k o1 hl hk)
  · rw [hget_cons] at h1 h3
    split at h1
    · rename_i hk
      split at h3
      · rename_i hj; omega
      · subst hk; exact h.inj k j o o2 hb ho h3 h4 he
    · split at h3
      · rename_i hj; subst hj; exact h.inj k j o1 o h1 h2 hb ho he
      · exact h.inj k j o1 o2 h1 h2 h3 h4 he
theorem Kept.setM {M : Nat → Prop} (w : World) (g : Nat) (o : Obj) (hM : M g) : Kept M w { w with heap := w.heap.setIfInBounds g o } :=
  ⟨rfl, rfl, rfl, by simp, fun i _ hi => by
    have : g ≠ i := fun e => hi (e ▸ hM)
    simp [this], Nat.le_refl _⟩
theorem run_setMap {w : World} {r c : Nat} {es : Array MapEntry} (o : Obj) (hb : w.heap[r]? = some (.map es c)) : (setObj r o).run P w = .ok () { w with heap := w.heap.setIfInBounds r o } := by
  simp [setObj, Sem.run, hb]
theorem makeMap_sound {t : TypeId} {r : Option Value} (hr : ∀ x, r = some x → ∃ z, x = .int .i64 z) (hτ : TysOK P τ) (hH : HR B H w) (hw : hwf n H) (hown : Own M m B H) (hM : M w.heap.size) (h : makeMapVC τ (τ t) H n κ) :
    EffRes P B M m n w (do pure (.value (← Instr.makeMap t r))) κ := by
  have fin : ∀ kk e bv, (τ t).k = .mp kk e → κ (.mp n) ((n, .mp bv []) :: H) (n + 1) → EffRes P B M m n w (do pure (.value (← Instr.makeMap t r))) κ := fun kk e bv hk h => by
    refine ⟨.mp n, _, _, upd B n w.heap.size, .map (some w.heap.size), _, h, by omega, by simp [SV.wf], hwf_cons (hwf_mono (by omega) hw) (by omega) trivial, upd_lt _ _ _, HR.new hH hw rfl rfl trivial, Kept.alloc _ _, Own.new hown hw hM, fun _ => by simp [SV.den, upd_self], .inl ?_⟩
    cases r with
    | none => simp [Instr.makeMap, SObj.den, mpE]
    | some x =>
      obtain ⟨z, rfl⟩ := hr x rfl
      simp [Instr.makeMap, run_underlying (und_mp hτ hk), asInt, asIntOf, SObj.den, mpE]
  unfold makeMapVC at h
  split at h
  · rename_i hk
    split at h
    · exact fin _ _ true hk h
    · exact fin _ _ false hk h
    · exact h.elim
  · exact h.elim
theorem mset_none {bv : Bool} {K : List Int} {x : Int} : ∀ {l : List (List Int × Int)} {i b : Nat}, mfind bv l K i = none → mpE bv (mset l K x) b = mpE bv l b ++ [⟨.agg (ints K), (mvS bv x).den (fun _ => 0), b + l.length⟩] ∧ (mset l K x).length = l.length + 1
  | [], _, b, _ => ⟨rfl, rfl⟩
  | (k, v) :: r, i, b, h => by
    unfold mfind at h
    split at h
    · cases h
    · rename_i hk
      have := mset_none (x := x) (b := b + 1) h
      simp only [mset, hk, if_false, mpE, this.1, this.2, List.length_cons, List.cons_append, true_and, and_true]
      simp only [show b + 1 + r.length = b + (r.length + 1) by omega]
theorem mset_some {bv : Bool} {K : List Int} {x : Int} : ∀ {l : List (List Int × Int)} {i b : Nat} {q : Nat × Value}, mfind bv l K i = some q → ∃ j v0, q.1 = i + j ∧ (mpE bv l b)[j]? = some ⟨.agg (ints K), v0, b + j⟩ ∧
    mpE bv (mset l K x) b = (mpE bv l b).modify j (fun e => { e with key := .agg (ints K), val := (mvS bv x).den (fun _ => 0) }) ∧ (mset l K x).length = l.length
  | [], _, _, _, h => by cases h
  | (k, v) :: r, i, b, q, h => by
    unfold mfind at h
    split at h
    · rename_i hk
      cases h
      subst hk
      refine ⟨0, (mvS bv v).den (fun _ => 0), rfl, rfl, ?_, ?_⟩
      · simp [mset, mpE]
      · simp [mset]
    · rename_i hk
      obtain ⟨j, v0, h1, h2, h3, h4⟩ := mset_some (x := x) (b := b + 1) h
      refine ⟨j + 1, v0, by omega, ?_, ?_, ?_⟩
      · simp only [mpE, List.getElem?_cons_succ, h2]
        congr 2
        omega
      · simp [mset, hk, mpE, h3]
      · simp [mset, hk, h4]
theorem sameBits_ints (K : List Int) : Instr.sameBits 10000 (.agg (ints K)) (.agg (ints K)) = true := by
  show Instr.sameBits (9999 + 1) (.agg (ints K)) (.agg (ints K)) = true
  simp only [Instr.sameBits, beq_self_eq_true, Bool.true_and, List.all_eq_true]
  intro p hp
  obtain ⟨i, hi, e⟩ := List.getElem_of_mem hp
  rw [List.getElem_zip] at e
  rw [← e]
  simp [Instr.sameBits]
theorem mapUpdate_sound {t : TypeId} {x i v : SV} (hτ : TysOK P τ) (hH : HR B H w) (hw : hwf n H) (hown : Own M m B H) (h : mapUpdateVC P m (τ t) x i v H n κ) :
    EffRes P B M m n w (do Instr.mapUpdate t (x.den B) (i.den B) (v.den B); pure .skip) κ := by
  unfold mapUpdateVC at h
  split at h
  · rename_i k e b K hk
    obtain ⟨hm, h⟩ := h
    unfold updB at h
    split at h
    · rename_i bv l hb
      obtain ⟨hK, hl, h⟩ := h
      have h1 := hH.at_ b _ hb rfl
      simp only [SObj.sat, SObj.den] at h1
      have hc := hK.2.2 K rfl
      have hf := run_find hK bv w l 0 0 hl
      have fin : ∀ z : Int, κ .und ((b, .mp bv (mset l K z)) :: H) n → v.den B = (mvS bv z).den (fun _ => 0) → EffRes P B M m n w (do Instr.mapUpdate t ((SV.mp b).den B) ((SV.arr K).den B) (v.den B); pure .skip) κ := by
        intro z hκ hv
        refine ⟨.und, _, n, B, undef, _, hκ, Nat.le_refl _, trivial, hwf_cons hw (hw b _ hb).1 trivial, fun _ _ => rfl, hH.setM hb rfl rfl, Kept.setM w _ _ (hown b _ hb rfl hm), hown.set hb rfl, fun _ => rfl, .inr ⟨?_, rfl⟩⟩
        simp only [SV.den, Instr.mapUpdate, Sem.run_bind, run_underlying (und_mp hτ hk), Result.andThen_ok, run_getMap h1, Sem.run_pure, hc, run_findKey_eq w hK.1, hf]
        cases hfi : mfind bv l K 0 with
        | none =>
          obtain ⟨m1, m2⟩ := mset_none (x := z) (b := 0) hfi
          have e1 : (mpE bv (mset l K z) 0).toArray = (mpE bv l 0).toArray.push ⟨.agg (ints K), v.den B, l.length⟩ := by
            rw [m1, hv]; apply Array.ext'; simp
          simp only [run_setMap _ h1, Result.andThen_ok, Sem.run_pure, SObj.den, e1, m2]
        | some q =>
          obtain ⟨j, v0, m1, m2, m3, m4⟩ := mset_some (x := z) (b := 0) hfi
          obtain ⟨q1, q2⟩ := q
          simp only at m1
          rw [Nat.zero_add] at m1
          subst m1
          have e1 : (mpE bv (mset l K z) 0).toArray = (mpE bv l 0).toArray.modify q1 (fun e => { e with key := .agg (ints K), val := v.den B }) := by
            rw [m3, hv]; apply Array.ext'; simp
          have e2 : ((((mpE bv l 0).toArray)[q1]?).map (·.key)).getD (.agg (ints K)) = .agg (ints K) := by
            simp [m2]
          simp only [e2, Instr.keyThatStays, sameBits_ints, if_true, Sem.run_bind, Sem.run_pure, Result.andThen_ok, run_setMap _ h1, SObj.den, e1, m4]
      split at h
      · rename_i y
        refine fin (if y then 1 else 0) h ?_
        cases y <;> simp [mvS, SV.den]
      · rename_i y
        exact fin y h rfl
      · exact h.elim
    · exact h.elim
  · exact h.elim

end
end Go.Proofs.Ytnlbljikbonioaa
