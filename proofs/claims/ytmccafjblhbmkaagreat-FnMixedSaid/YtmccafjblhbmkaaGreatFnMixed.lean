/- The law FnMixed answers true. Conditions: none. -/
import Derived.Test.YtmccafjblhbmkaaGreatQ1
import Derived.Test.YtmccafjblhbmkaaGreatQ2
import Derived.Test.YtmccafjblhbmkaaGreatQ3
import Derived.Test.YtmccafjblhbmkaaGreatQ4
import Derived.Test.YtmccafjblhbmkaaGreatQ5
import Derived.Test.YtmccafjblhbmkaaGreatQ6
import Derived.Test.YtmccafjblhbmkaaGreatQ7
import Derived.Test.YtmccafjblhbmkaaGreatQ8
import Derived.Test.YtmccafjblhbmkaaGreatQ9
import Derived.Test.YtmccafjblhbmkaaGreatQ10
import Derived.Test.YtmccafjblhbmkaaGreatQ11
set_option maxRecDepth 100000
set_option linter.unusedSimpArgs false
set_option linter.unusedVariables false
namespace Go.Proofs.YtmccafjblhbmkaaGreat
open Go Go.RowKit Go.ChangeShapes Go.WideShapes Go.ChangeAt
theorem params_ok_5 : ∀ t ∈ Tryz.f5.params.toList, Tryz.prog.readableRec t = true ∧ t < Tryz.prog.types.size := by
  intro t ht
  have h : (Tryz.f5.params.toList.all fun t => Tryz.prog.readableRec t && Nat.blt t Tryz.prog.types.size) = true := by kernel_rfl
  have := List.all_eq_true.1 h t ht
  simpa using this
set_option maxRecDepth 100000 in
theorem own_FnMixed_lifted (os : Os) (started : os.Started) (H : Type) (enc : TypeId × Value → H) :
    ReturnsInHanded {} Tryz.checked os 5 .any (Rows.fnMixedSpec.pre6 enc Tryz.prog Tryz.f5 Rows.fnMixedRow.domain false) (Rows.fnMixedSpec.post enc Tryz.prog Tryz.f5 false true false false) := by
  refine returnsInHanded_of_change (C := Tryz.checked) own_knob started (by kernel_rfl) Tryz.func5
    (ChangeSpec.witness6 (enc := enc) (C := Tryz.checked) false ⟨#[], #[.slice none 0 0], []⟩ 8 (by kernel_rfl) (by kernel_rfl) (by kernel_rfl) (by kernel_rfl)) ?_
  intro W base args ds gs before hval0 hW _ _
  have hval : ∀ (j : Nat) t v, Tryz.f5.params[j]? = some t → args[j]? = some v → Value.okWide Tryz.prog W .any base t v := hval0
  have hW' := hW
  obtain ⟨p, q, hA0, hV, rfl, hfz, hnd⟩ := hW
  have hA : DataW.TrodAll enc Tryz.prog W 0 (fun _ => true) true Tryz.f5.params.toList args.toList ds p := hA0
  rw [Tryz.params5] at hA hval
  obtain ⟨v0, vs0, d0, ds0, p0, q0, hargs, rfl, rfl, h0, r0⟩ := trodAll_cons hA
  obtain ⟨rfl, rfl, rfl⟩ := trodAll_nil r0
  obtain rfl : args = #[v0] := by cases args; simp_all
  obtain ⟨rfl, rfl⟩ := trodVars_none hV
  rcases open_by Tryz.underlying22 (by kernel_rfl) Tryz.underlying5 (hval 0 22 v0 rfl rfl) h0 with rfl | ⟨b0, off0, len0, cap0, L0, rfl, hle0, hcm0, hLl0, hLb0, hsat0⟩
  · refine ((lawFnMixedN  ).call (fun _ => 0) W (HR.nil _ _)).mono fun e W' ⟨he, hb⟩ => ?_
    subst he
    exact ⟨_, rfl, law_post hb.toBelow hW' rfl rfl rfl rfl rfl (params_ok_5)⟩
  · refine ((lawFnMixed L0 off0 len0 cap0 hle0 hcm0 hLl0 hLb0).call (fun _ => b0) W (HR.winU_one hsat0)).mono fun e W' ⟨he, hb⟩ => ?_
    subst he
    exact ⟨_, rfl, law_post hb.toBelow hW' rfl rfl rfl rfl rfl (params_ok_5)⟩
theorem FnMixed_holds : Rows.FnMixedSaid :=
  OpenClaim.holds_of_wide 5 Tryz.f5 rfl rfl rfl rfl rfl rfl rfl ⟨rfl, rfl, rfl, rfl, rfl⟩ rfl rfl rfl rfl rfl (by kernel_rfl) Tryz.func5 (by kernel_rfl)
    (of_decide_eq_true (by kernel_rfl)) (by unfold Func.isWrapper; first | (rw [if_pos (by decide +kernel)]; kernel_rfl) | (rw [if_neg (by decide +kernel)]; exact ⟨rfl, rfl⟩))
    (fun os started H enc _ => own_FnMixed_lifted os started H enc)
#print axioms FnMixed_holds
end Go.Proofs.YtmccafjblhbmkaaGreat
