/- From a walk to the statement: arguments that are slices. -/
import Derived.Test.YtnlbljikbonioaaFin
set_option maxRecDepth 100000
set_option linter.unusedSimpArgs false
set_option linter.unusedVariables false
namespace Go.Proofs.Ytnlbljikbonioaa
open Go Go.RowKit Go.ChangeShapes Go.WideShapes Go.ChangeAt

/-- Each value of this type is so many int64 cells. -/
def IntEl (t w : Nat) : Prop := ∀ {H : Type} {enc : TypeId × Value → H} {W : World} {base : Nat} {sp : Nat → Bool} {held : Bool} {fuel : Nat} {cs : List Value} {x : DataW H × List MemPlace},
  DataW.trod enc Try.prog W base sp held fuel t cs = some x → cs.length = w ∧ ∀ j, j < w → ∃ n, cs[j]? = some (.int .i64 n) ∧ In64 n
theorem intEl_int {t : Nat} (ht : Try.prog.underlying t = some (.int .i64)) : IntEl t 1 := by
  intro H enc W base sp held fuel cs x h
  obtain ⟨n, rfl, _, hw⟩ := DataW.trod_int ht h
  refine ⟨rfl, fun j hj => ⟨n, ?_, by simpa [Lit.wf, IntKind.min, IntKind.max, IntKind.signed, IntKind.bits, In64] using hw⟩⟩
  obtain rfl : j = 0 := by omega
  rfl
theorem intEl_arr {t e w : Nat} (ht : Try.prog.underlying t = some (.array w e)) (hc : Try.prog.cellsOf t = w) (he : Try.prog.underlying e = some (.int .i64)) (hce : Try.prog.cellsOf e = 1) : IntEl t w := by
  intro H enc W base sp held fuel cs x h
  obtain ⟨xs, n, _, _, hl, hxl, hx⟩ := DataW.trod_array ht h
  refine ⟨by omega, fun j hj => ?_⟩
  have h1 := hx j hj
  rw [hce, Nat.mul_one] at h1
  obtain ⟨y, hy⟩ : ∃ y, xs[j]? = some y := ⟨xs[j]'(by omega), List.getElem?_eq_getElem (by omega)⟩
  rw [hy] at h1
  obtain ⟨m, hm, _, hw⟩ := DataW.trod_int he h1
  refine ⟨m, ?_, by simpa [Lit.wf, IntKind.min, IntKind.max, IntKind.signed, IntKind.bits, In64] using hw⟩
  have := congrArg (fun l => l[0]?) hm
  simpa [List.getElem?_take, List.getElem?_drop] using this
theorem intEl_str {t w : Nat} {fs : Array Field} (ht : Try.prog.underlying t = some (.struct fs)) (hc : Try.prog.cellsOf t = w) (hn : fs.size = w) (hf : ∀ j, j < w → ∃ f, fs[j]? = some f ∧ f.offset = j ∧ Try.prog.underlying f.type = some (.int .i64) ∧ Try.prog.cellsOf f.type = 1) : IntEl t w := by
  intro H enc W base sp held fuel cs x h
  obtain ⟨xs, n, _, _, hl, hxl, hx⟩ := DataW.trod_struct ht h
  refine ⟨by omega, fun j hj => ?_⟩
  obtain ⟨f, hf1, hf2, hf3, hf4⟩ := hf j hj
  have h1 := hx j f hf1
  rw [hf4, hf2] at h1
  obtain ⟨y, hy⟩ : ∃ y, xs[j]? = some y := ⟨xs[j]'(by omega), List.getElem?_eq_getElem (by omega)⟩
  rw [hy] at h1
  obtain ⟨m, hm, _, hw⟩ := DataW.trod_int hf3 h1
  refine ⟨m, ?_, by simpa [Lit.wf, IntKind.min, IntKind.max, IntKind.signed, IntKind.bits, In64] using hw⟩
  have := congrArg (fun l => l[0]?) hm
  simpa [List.getElem?_take, List.getElem?_drop] using this

theorem add_off (b o n : Nat) : (Addr.mk b o none).add n = ⟨b, o + n, none⟩ := by
  unfold Addr.add
  split
  · rename_i h; rw [h]; rfl
  · rfl
def intOf (v : Option Value) : Int := match v with
  | some (.int _ n) => n
  | _ => 0
/-- An argument that is a slice of such values. -/
theorem open_sl {H : Type} {enc : TypeId × Value → H} {W : World} {b0 : Nat} {sp : Nat → Bool} {held : Bool} {t e w : Nat} {v : Value} {d : DataW H} {ps : List MemPlace} (ht : Try.prog.underlying t = some (.slice e)) (hc : Try.prog.cellsOf e = w) (hw : 0 < w) (hE : IntEl e w)
    (hval : Value.okWide Try.prog W .any b0 t v) (hd : DataW.Trod enc Try.prog W 0 sp held t v d ps) :
    v = .slice none 0 0 ∨ ∃ (b off len cap : Nat) (L : List Int), v = .slice (some ⟨b, off, none⟩) len cap ∧ len ≤ cap ∧ cap ≤ maxLen ∧ L.length = len * w ∧ (∀ x ∈ L, In64 x) ∧ SObj.sat (fun _ => b) W b (.win off L) := by
  unfold Value.okWide at hval
  rw [ht] at hval
  simp only [Cell.okWide] at hval
  rw [ht] at hval
  obtain ⟨fuel, hd⟩ := hd
  rcases DataW.trod_slice ht hd with ⟨h0, _⟩ | ⟨a, len, cap, elems, rest, n, _, hcs, _, _, hl, hm, hlen, hel, _⟩
  · left
    cases v <;> simp_all [Value.cells, Cell.ok]
  · right
    have hv : v = .slice (some a) len cap := by
      cases v <;> simp_all [Value.cells, Cell.ok]
    subst hv
    simp only [Cell.ok, ht] at hval
    obtain ⟨_, _, _, hsp, row, cells, hshape, _⟩ := hval
    obtain ⟨b, off, spot⟩ := a
    simp only at hsp hshape
    subst hsp
    unfold World.shape? at hshape
    split at hshape
    · rename_i c el fz hb
      have each : ∀ k, k < len * w → ∃ n, c[off + k]? = some (.int .i64 n) ∧ In64 n := by
        intro k hk
        have hi : k / w < len := (Nat.div_lt_iff_lt_mul hw).2 hk
        have hj : k % w < w := Nat.mod_lt _ hw
        have h1 := hel (k / w) hi
        obtain ⟨y, hy⟩ : ∃ y, elems[k / w]? = some y := ⟨elems[k / w]'(by omega), List.getElem?_eq_getElem (by omega)⟩
        rw [hy, hc, Option.bind_eq_some_iff] at h1
        obtain ⟨cs, hcs, h1⟩ := h1
        obtain ⟨hcl, hce⟩ := hE h1
        obtain ⟨m, hm, hin⟩ := hce (k % w) hj
        have h2 := (World.cells?_some hcs).2.2 (k % w) hj
        rw [hm, add_off, add_off] at h2
        unfold World.cell? at h2
        simp only [hb] at h2
        refine ⟨m, ?_, hin⟩
        have e1 : off + k / w * w + k % w = off + k := by
          have := Nat.div_add_mod k w
          rw [Nat.mul_comm] at this
          omega
        rw [e1] at h2
        simpa using h2
      refine ⟨b, off, len, cap, (List.range (len * w)).map fun k => intOf c[off + k]?, rfl, hl, hm, by simp, fun x hx => ?_, c, el, fz, hb, fun i hi => ?_⟩
      · obtain ⟨k, hk, rfl⟩ := List.mem_map.1 hx
        obtain ⟨m, h1, h2⟩ := each k (List.mem_range.1 hk)
        rw [h1]; exact h2
      · simp at hi
        obtain ⟨m, h1, h2⟩ := each i hi
        rw [h1]
        simp [List.getD, hi, h1, intOf]
    · cases hshape
theorem HR.win_one {b off : Nat} {L : List Int} {W : World} (h : SObj.sat (fun _ => b) W b (.win off L)) : HR (fun _ => b) [(0, .win off L)] W where
  at_ := fun k o hk _ => by
    rw [hget_cons] at hk
    split at hk
    · cases hk; exact h
    · cases hk
  inj := fun k j o o' h1 _ h2 _ _ => by
    rw [hget_cons] at h1 h2
    split at h1
    · split at h2
      · omega
      · cases h2
    · cases h1
end Go.Proofs.Ytnlbljikbonioaa
