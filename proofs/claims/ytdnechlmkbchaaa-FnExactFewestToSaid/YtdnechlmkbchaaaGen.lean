/- Contracts in general: what a walk showed, for a call among other blocks. -/
import Derived.Test.YtdnechlmkbchaaaUpd
set_option maxRecDepth 100000
set_option linter.unusedSimpArgs false
set_option linter.unusedVariables false
namespace Go.Proofs.Ytdnechlmkbchaaa
open Go Go.RowKit

mutual
theorem SV.wf_ren {n N : Nat} {ρ : Nat → Nat} (h : ∀ k, k < n → ρ k < N) : ∀ v : SV, v.wf n → (v.ren ρ).wf N
  | .non, _ => trivial
  | .und, _ => trivial
  | .int _, _ => trivial
  | .bool _, _ => trivial
  | .arr _, _ => trivial
  | .barr _, _ => trivial
  | .lit _, _ => trivial
  | .nils, _ => trivial
  | .ptr b o, hw => by simp only [SV.ren, SV.wf] at *; exact h b hw
  | .slice b o l c, hw => by simp only [SV.ren, SV.wf] at *; exact h b hw
  | .mp b, hw => by simp only [SV.ren, SV.wf] at *; exact h b hw
  | .fn f caps, hw => by simp only [SV.ren, SV.wf] at *; exact wfL_ren h caps hw
  | .tup l, hw => by simp only [SV.ren, SV.wf] at *; exact wfL_ren h l hw
  | .stc l, hw => by simp only [SV.ren, SV.wf] at *; exact wfL_ren h l hw
theorem wfL_ren {n N : Nat} {ρ : Nat → Nat} (h : ∀ k, k < n → ρ k < N) : ∀ l : List SV, wfL n l → wfL N (renL ρ l)
  | [], _ => trivial
  | v :: r, hw => by simp only [renL, wfL] at *; exact ⟨SV.wf_ren h v hw.1, wfL_ren h r hw.2⟩
end
theorem SObj.wf_ren {n N : Nat} {ρ : Nat → Nat} (h : ∀ k, k < n → ρ k < N) (o : SObj) (hw : o.wf n) : (o.ren ρ).wf N := by
  cases o <;> simp only [SObj.ren, SObj.wf] at *
  exact wfL_ren h _ hw
/-- Names of a call's blocks among the caller's. -/
def ext (ρ : Nat → Nat) (n0 n : Nat) : Nat → Nat := fun k => if k < n0 then ρ k else n + (k - n0)
theorem ext_lt {ρ : Nat → Nat} {n0 n k : Nat} (h : k < n0) : ext ρ n0 n k = ρ k := if_pos h
theorem ext_ge {ρ : Nat → Nat} {n0 n k : Nat} (h : n0 ≤ k) : ext ρ n0 n k = n + (k - n0) := if_neg (by omega)
def renH (ρ : Nat → Nat) (H : Heap) : Heap := H.map fun q => (ρ q.1, q.2.ren ρ)
theorem renH_get {ρ : Nat → Nat} (hi : ∀ a b, ρ a = ρ b → a = b) (H : Heap) (k : Nat) : hget (renH ρ H) (ρ k) = (hget H k).map (SObj.ren ρ) := by
  induction H with
  | nil => rfl
  | cons q H ih =>
    obtain ⟨b, o⟩ := q
    show hget ((ρ b, o.ren ρ) :: renH ρ H) (ρ k) = _
    rw [hget_cons, hget_cons, ih]
    by_cases h : k = b
    · subst h; rw [if_pos rfl, if_pos rfl]; rfl
    · rw [if_neg (fun h2 => h (hi _ _ h2)), if_neg h]
theorem renH_key {ρ : Nat → Nat} (H : Heap) {j : Nat} {o : SObj} (h : hget (renH ρ H) j = some o) : ∃ k, j = ρ k := by
  induction H with
  | nil => cases h
  | cons q H ih =>
    obtain ⟨b, o1⟩ := q
    have h' : hget ((ρ b, o1.ren ρ) :: renH ρ H) j = some o := h
    rw [hget_cons] at h'
    split at h'
    · exact ⟨b, by assumption⟩
    · exact ih h'
/-- What a walk comes to: a value and blocks under names of its own. -/
def finK (p m : Nat) (ψ : SV → Heap → Nat → Prop) : K1 := fun v H' _ => ∃ v' H'' n'', Sub p m [(0, v)] H' [(0, v')] H'' n'' ∧ ψ v' H'' n''

theorem gen_of_vc {X : Cx} {f : FuncId} {fn : Func} {c : Code} (hf : FnOK X.P f fn c X.sx X.hr) (hX : CxOK X) {n0 : Nat} {args : List SV} {H0 : Heap} {ψ : SV → Heap → Nat → Prop} (hN : args.length ≤ fn.ntmps) (hwa : wfL n0 args) (hwH : hwf n0 H0) (hm0 : X.m ≤ n0)
    (h : codeVC X n0 c (argS 0 args) H0 n0 (retK X.τ fn.results.toList (finK n0 X.m ψ)))
    (ρ : Nat → Nat) {H : Heap} {n m : Nat} {κ : K1} (hdom : ∀ k, k < n0 → ∃ o, hget H0 k = some o) (hi : ∀ a b, a < n0 → b < n0 → ρ a = ρ b → a = b)
    (hs : ∀ k o, hget H0 k = some o → hget H (ρ k) = some (o.ren ρ)) (hm : ∀ k o, hget H0 k = some o → X.m ≤ k → m ≤ ρ k)
    (hq : ∀ v H' n', ψ v H' n' → (∀ k o, hget H0 k = some o → o.live = true → X.m ≤ k → (hget H' k).isSome = true) ∧ (∀ k o, hget H' k = some o → o.live = true → k < X.m → ∃ o0, hget H0 k = some o0 ∧ o0.live = true))
    (hk : ∀ v H' n', ψ v H' n' → n0 ≤ n' → κ (v.ren (ext ρ n0 n)) (renH (ext ρ n0 n) H' ++ H) (n + (n' - n0))) : GenOK X.P f (renL ρ args) H n m κ := by
  refine ⟨hf.ent, fun B M w hH hwHH hwa' hown hM => ?_⟩
  have hρ : ∀ k, k < n0 → ρ k < n := fun k hk0 => by
    obtain ⟨o, ho⟩ := hdom k hk0
    exact (hwHH _ _ (hs k o ho)).1
  have hR : HR (fun k => B (ρ k)) H0 w := ⟨fun k o hl hk1 => by
    have := hH.at_ _ _ (hs k o hl) (by rw [SObj.live_ren]; exact hk1)
    rw [SObj.sat_ren] at this
    exact this, fun k j o1 o2 h1 h2 h3 h4 he => hi k j (hwH k o1 h1).1 (hwH j o2 h3).1 (hH.inj _ _ _ _ (hs k o1 h1) (by rw [SObj.live_ren]; exact h2) (hs j o2 h3) (by rw [SObj.live_ren]; exact h4) he)⟩
  rw [denL_ren]
  let M0 : Nat → Prop := fun i => (∃ k o, hget H0 k = some o ∧ o.live = true ∧ X.m ≤ k ∧ i = B (ρ k)) ∨ w.heap.size ≤ i
  have hM0 : ∀ i, M0 i → M i := fun i hi0 => by
    rcases hi0 with ⟨k, o, h1, h2, h3, rfl⟩ | h1
    · exact hown _ _ (hs k o h1) (by rw [SObj.live_ren]; exact h2) (hm k o h1 h3)
    · exact hM i h1
  have hown0 : Own M0 X.m (fun k => B (ρ k)) H0 := fun k o h1 h2 h3 => .inl ⟨k, o, h1, h2, h3, rfl⟩
  refine (run_of_vc hf hX hN hwa hwH (Nat.le_refl _) h (fun k => B (ρ k)) M0 w hR hown0 (fun _ h => .inr h)).mono fun e w' hh => ?_
  obtain ⟨v1, H1, n1, B1, rfl, ⟨v, H', n', hsub, hψ⟩, g1, g2, g3, g4, g5, g6, g7⟩ := hh
  -- the last renaming
  obtain ⟨σ, s1, s2, s3, s4, s5, s6, s7⟩ := hsub
  have sv := subS_spec s1 0 v rfl
  have e1 : v1 = v.ren σ := sv.1
  have vw : v.wf n' := s3.1
  let B2 : Nat → Nat := fun k => B1 (σ k)
  have hB2 : ∀ k, k < n0 → B2 k = B (ρ k) := fun k hk1 => by
    show B1 (σ k) = _
    rw [s6 k hk1, g6 k hk1]
  have hR2 : HR B2 H' w' := ⟨fun k o hl hk1 => by
    obtain ⟨a1, _, _⟩ := s2 k o hl
    have := g3.at_ _ _ a1 (by rw [SObj.live_ren]; exact hk1)
    rw [SObj.sat_ren] at this
    exact this, fun k j o o' a1 a2 a3 a4 he => by
    obtain ⟨b1, _, b3⟩ := s2 k o a1
    obtain ⟨c1, _, c3⟩ := s2 j o' a3
    exact s5 k b3 j c3 (g3.inj _ _ _ _ b1 (by rw [SObj.live_ren]; exact a2) c1 (by rw [SObj.live_ren]; exact a4) he)⟩
  have hO2 : Own M0 X.m B2 H' := fun k o hl hk1 hmk => by
    obtain ⟨a1, a2, _⟩ := s2 k o hl
    exact g4 _ _ a1 (by rw [SObj.live_ren]; exact hk1) (a2 hmk)
  obtain ⟨q1, q2⟩ := hq v H' n' hψ
  have hκ := hk v H' n' hψ s7
  -- names among the caller's
  let E := ext ρ n0 n
  let B3 : Nat → Nat := fun j => if j < n then B j else B2 (n0 + (j - n))
  have hE : ∀ k, k < n' → E k < n + (n' - n0) := fun k hk1 => by
    show ext ρ n0 n k < _
    by_cases hlt : k < n0
    · rw [ext_lt hlt]; have := hρ k hlt; omega
    · rw [ext_ge (by omega)]; omega
  have hEi : ∀ a b, E a = E b → a = b := fun a b he => by
    have he' : ext ρ n0 n a = ext ρ n0 n b := he
    by_cases ha : a < n0
    · have := hρ a ha
      by_cases hb : b < n0
      · rw [ext_lt ha, ext_lt hb] at he'; exact hi a b ha hb he'
      · rw [ext_lt ha, ext_ge (by omega)] at he'; omega
    · by_cases hb : b < n0
      · have := hρ b hb
        rw [ext_ge (by omega), ext_lt hb] at he'; omega
      · rw [ext_ge (by omega), ext_ge (by omega)] at he'; omega
  have hB3 : ∀ k, B3 (E k) = B2 k := fun k => by
    show (if ext ρ n0 n k < n then B (ext ρ n0 n k) else B2 (n0 + (ext ρ n0 n k - n))) = _
    by_cases hlt : k < n0
    · rw [ext_lt hlt, if_pos (hρ k hlt), hB2 k hlt]
    · rw [ext_ge (by omega), if_neg (by omega), show n0 + (n + (k - n0) - n) = k by omega]
  have hB3l : ∀ j, j < n → B3 j = B j := fun j hj => if_pos hj
  -- a look-up in the new heap
  have look : ∀ j o, hget (renH E H' ++ H) j = some o → (∃ k o', j = E k ∧ hget H' k = some o' ∧ o = o'.ren E) ∨ (hget H j = some o ∧ ∀ k, j = E k → hget H' k = none) := fun j o hl => by
    rw [hget_app] at hl
    cases hr : hget (renH E H') j with
    | some o1 =>
      rw [hr] at hl
      simp at hl
      subst hl
      obtain ⟨k, rfl⟩ := renH_key H' hr
      rw [renH_get hEi] at hr
      cases hk1 : hget H' k with
      | none => rw [hk1] at hr; cases hr
      | some o' => rw [hk1] at hr; simp at hr; exact .inl ⟨k, o', rfl, hk1, hr.symm⟩
    | none =>
      rw [hr] at hl
      simp at hl
      refine .inr ⟨hl, fun k hjk => ?_⟩
      subst hjk
      rw [renH_get hEi] at hr
      cases hk1 : hget H' k with
      | none => rfl
      | some o' => rw [hk1] at hr; cases hr
  -- blocks of the caller's that the call did not write
  have same : ∀ j o, hget H j = some o → o.live = true → (∀ k, j = E k → hget H' k = none) → ¬ M0 (B j) := fun j o hl hk1 hno hc => by
    rcases hc with ⟨k, o1, a1, a2, a3, a4⟩ | hc
    · have hj := hH.inj j (ρ k) _ _ hl hk1 (hs k o1 a1) (by rw [SObj.live_ren]; exact a2) a4
      have hkn := (hwH k o1 a1).1
      have hn := hno k (by rw [hj]; exact (ext_lt hkn).symm)
      have := q1 k o1 a1 a2 a3
      rw [hn] at this; cases this
    · have := hH.lt hl hk1
      omega
  have ren3 : ∀ (o : SObj) (id : Nat), o.wf n' → o.sat B2 w' id → (o.ren E).sat B3 w' id := fun o id hw1 hs1 => by
    rw [SObj.sat_ren]
    exact SObj.sat_congr (fun k _ => hB3 k) o hw1 hs1
  refine ⟨v.ren E, renH E H' ++ H, n + (n' - n0), B3, ?_, hκ, by omega, SV.wf_ren hE v vw, ?_, fun k hk1 => hB3l k hk1, ⟨fun j o hl hk1 => ?_, fun j1 j2 o1 o2 a1 a2 a3 a4 he => ?_⟩, ?_, ?_⟩
  · congr 1
    rw [SV.den_ren, e1, SV.den_ren]
    exact (SV.den_congr (n := n') (fun k _ => hB3 k) v vw).symm
  · intro j o hl
    rcases look j o hl with ⟨k, o', rfl, a1, rfl⟩ | ⟨a1, _⟩
    · have := s4 k o' a1
      exact ⟨hE k this.1, SObj.wf_ren hE o' this.2⟩
    · have := hwHH j o a1
      exact ⟨by omega, SObj.wf_mono (by omega) _ this.2⟩
  · rcases look j o hl with ⟨k, o', rfl, a1, rfl⟩ | ⟨a1, hno⟩
    · rw [SObj.live_ren] at hk1
      rw [hB3]
      exact ren3 o' _ (s4 k o' a1).2 (hR2.at_ k o' a1 hk1)
    · have hjn := (hwHH j o a1).1
      rw [hB3l j hjn]
      refine SObj.sat_congr (fun k hk2 => hB3l k hk2) o (hwHH j o a1).2 ?_
      exact SObj.sat_heap (g5.block (B j) (hH.lt a1 hk1) (same j o a1 hk1 hno)) (hH.at_ j o a1 hk1)
  · have cross : ∀ k o' j o, hget H' k = some o' → o'.live = true → hget H j = some o → o.live = true → (∀ k, j = E k → hget H' k = none) → B2 k ≠ B j := fun k o' j o b1 b2 b3 b4 hno hc => by
      by_cases hkm : k < X.m
      · obtain ⟨o0, c1, c2⟩ := q2 k o' b1 b2 hkm
        have hkn : k < n0 := by omega
        rw [hB2 k hkn] at hc
        have hj := hH.inj _ _ _ _ (hs k o0 c1) (by rw [SObj.live_ren]; exact c2) b3 b4 hc
        have := hno k (by rw [← hj]; exact (ext_lt hkn).symm)
        rw [this] at b1; cases b1
      · have := hO2 k o' b1 b2 (by omega)
        rw [hc] at this
        exact same j o b3 b4 hno this
    rcases look j1 o1 a1 with ⟨k1, p1, rfl, b1, rfl⟩ | ⟨b1, n1'⟩ <;> rcases look j2 o2 a3 with ⟨k2, p2, rfl, c1, rfl⟩ | ⟨c1, n2'⟩
    · rw [SObj.live_ren] at a2 a4
      rw [hB3, hB3] at he
      rw [hR2.inj k1 k2 _ _ b1 a2 c1 a4 he]
    · rw [SObj.live_ren] at a2
      rw [hB3, hB3l j2 (hwHH j2 o2 c1).1] at he
      exact absurd he (cross k1 p1 j2 o2 b1 a2 c1 a4 n2')
    · rw [SObj.live_ren] at a4
      rw [hB3, hB3l j1 (hwHH j1 o1 b1).1] at he
      exact absurd he.symm (cross k2 p2 j1 o1 c1 a4 b1 a2 n1')
    · rw [hB3l j1 (hwHH j1 o1 b1).1, hB3l j2 (hwHH j2 o2 c1).1] at he
      exact hH.inj j1 j2 _ _ b1 a2 c1 a4 he
  · intro j o hl hk1 hmj
    rcases look j o hl with ⟨k, o', rfl, a1, rfl⟩ | ⟨a1, _⟩
    · rw [SObj.live_ren] at hk1
      rw [hB3]
      by_cases hkm : k < X.m
      · obtain ⟨o0, c1, c2⟩ := q2 k o' a1 hk1 hkm
        have hkn : k < n0 := by omega
        rw [hB2 k hkn]
        have hmj' : m ≤ ext ρ n0 n k := hmj
        rw [ext_lt hkn] at hmj'
        exact hown _ _ (hs k o0 c1) (by rw [SObj.live_ren]; exact c2) hmj'
      · exact hM0 _ (hO2 k o' a1 hk1 (by omega))
    · rw [hB3l j (hwHH j o a1).1]
      exact hown j o a1 hk1 hmj
  · exact ⟨g5.os, g5.tape, g5.output, g5.size, fun i hi1 hi2 => g5.block i hi1 fun hc => hi2 (hM0 i hc), g5.drawn⟩
end Go.Proofs.Ytdnechlmkbchaaa
