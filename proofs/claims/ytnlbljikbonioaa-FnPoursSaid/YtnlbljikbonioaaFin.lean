/- From a walk to the statement: arguments opened, the row's post. -/
import Derived.Test.YtnlbljikbonioaaEngF
import Derived.Test.YtnlbljikbonioaaRows
import Derived.ProofKit
import Derived.OpenShut
set_option maxRecDepth 100000
set_option linter.unusedSimpArgs false
set_option linter.unusedVariables false
namespace Go.Proofs.Ytnlbljikbonioaa
open Go Go.RowKit Go.ChangeShapes Go.WideShapes Go.ChangeAt

theorem own_knob : ownKnob Try.prog.godebug = none := by kernel_rfl
theorem laid_out : laidOutB Try.prog = true := by kernel_rfl

theorem cell_int {w : World} {base : Nat} {u : TypeId} {v : Value} (hu : Try.prog.underlying u = some (.int .i64)) (h : Cell.okWide Try.prog w .any base u v) : ∃ x, v = .int .i64 x ∧ In64 x := by
  unfold Cell.okWide at h
  rw [hu] at h
  cases v <;> simp only [Cell.ok, hu] at h <;> (try exact h.elim)
  rename_i k x
  obtain ⟨rfl, hx⟩ := h
  exact ⟨x, rfl, hx⟩

/-- An argument of all int64 cells. -/
theorem open_arr {w : World} {base t u size : Nat} {v : Value} {d : TypeDesc} (ht : Try.prog.underlying t = some d) (hd : tdAgg d = true) (hts : Try.prog.cellTypes Try.prog.depth t = some (List.replicate size u)) (hc : Try.prog.cellsOf t = size)
    (hu : Try.prog.underlying u = some (.int .i64)) (h : Value.okWide Try.prog w .any base t v) : ∃ L, v = .agg (ints L) ∧ L.length = size ∧ ∀ x ∈ L, In64 x := by
  unfold Value.okWide at h
  rw [ht] at h
  have h' : ∃ cs, v = .agg cs ∧ cs.size = Try.prog.cellsOf t ∧ Row.okWide Try.prog w .any base t cs := by
    cases d <;> simp [tdAgg] at hd <;> exact h
  obtain ⟨cs, rfl, hsz, ts, hts', _, hr⟩ := h'
  rw [hts] at hts'
  cases hts'
  have key : ∀ (l : List Value) (k : Nat), (∀ (i : Nat) (v : Value), l[i]? = some v → ∃ x, v = Value.int .i64 x ∧ In64 x) → ∃ L : List Int, l = L.map (Value.int .i64) ∧ ∀ x ∈ L, In64 x := by
    intro l
    induction l with
    | nil => intro _ _; exact ⟨[], rfl, by simp⟩
    | cons a l ih =>
      intro k hl
      obtain ⟨x, rfl, hx⟩ := hl 0 a rfl
      obtain ⟨L, rfl, hL⟩ := ih k fun i v hv => hl (i + 1) v hv
      exact ⟨x :: L, rfl, by simpa using ⟨hx, hL⟩⟩
  obtain ⟨L, hL, hb⟩ := key cs.toList 0 fun i v hv => by
    obtain ⟨u', hu', hc'⟩ := hr i v (by simpa using hv)
    have : u' = u := by
      rw [List.getElem?_replicate] at hu'
      split at hu'
      · cases hu'; rfl
      · cases hu'
    subst this
    exact cell_int hu hc'
  refine ⟨L, ?_, ?_, hb⟩
  · simp only [ints]; rw [← hL]
  · have := congrArg List.length hL
    simp at this
    omega

theorem trodAll_below {H : Type} {enc : TypeId × Value → H} {W W' : World} (hb : Below W.heap.size W W') : ∀ {ts : List TypeId} {vs : List Value} {ds : List (DataW H)} {ps : List MemPlace}, DataW.TrodAll enc Try.prog W 0 (fun _ => true) true ts vs ds ps →
    (∀ t ∈ ts, Try.prog.readableRec t = true ∧ t < Try.prog.types.size) → (∀ x ∈ ps, x.block < W.heap.size) → DataW.TrodAll enc Try.prog W' 0 (fun b => decide (b < W.heap.size)) true ts vs ds ps
  | [], vs, ds, ps, h, _, _ => by
    obtain ⟨rfl, rfl, rfl⟩ := trodAll_nil h
    exact trodAll_mk0
  | t :: ts, vs, ds, ps, h, hr, hp => by
    obtain ⟨v0, vs0, d0, ds0, p0, q0, rfl, rfl, rfl, h0, r0⟩ := trodAll_cons h
    exact trodAll_cons_mk (Below.trod laid_out (hr t (by simp)).1 (hr t (by simp)).2 h0 hb fun x hx => hp x (by simp [hx])) (trodAll_below hb r0 (fun t' ht' => hr t' (by simp [ht'])) fun x hx => hp x (by simp [hx]))

theorem law_post {H : Type} {enc : TypeId × Value → H} {f : Func} {s : ChangeSpec} {W W' : World} {args : Array Value} {ds gs : List (DataW H)} {before : List MemPlace} (hb : Below W.heap.size W W') (hW : DataW.Whole enc Try.prog f.params.toList s.vars false W args.toList ds gs before)
    (hv : s.vars = []) (hrt : f.resultTypes = #[4]) (hs1 : (s.fn H (ds ++ gs)).results = [.lit (.bool true)]) (hs2 : (s.fn H (ds ++ gs)).args = ds) (hs3 : (s.fn H (ds ++ gs)).vars = []) (hr : ∀ t ∈ f.params.toList, Try.prog.readableRec t = true ∧ t < Try.prog.types.size) :
    s.post enc Try.prog f false true false false W args (.bool true) W' := by
  have hW' := hW
  obtain ⟨p, q, hA, hV, rfl, hfz, hnd⟩ := hW
  rw [hv] at hV
  obtain ⟨rfl, rfl⟩ := trodVars_none hV
  refine ⟨ds, _, _, [], p, [], hW', ?_, ?_, ?_, hb.frame _, fun h => by cases h⟩
  · rw [hs1, hrt]
    exact trodAll_cons_mk (shut_bool Try.underlying4 true) trodAll_mk0
  · rw [hs2]
    exact trodAll_below hb hA hr fun x hx => by simpa using hW'.lt x (by simpa using hx)
  · rw [hv, hs3]
    rfl
end Go.Proofs.Ytnlbljikbonioaa
