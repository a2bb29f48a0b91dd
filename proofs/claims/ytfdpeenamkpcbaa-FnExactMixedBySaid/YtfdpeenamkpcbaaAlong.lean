/- Walks: BoundsAlong. -/
import Derived.Test.YtfdpeenamkpcbaaBacks
import Derived.Test.YtfdpeenamkpcbaaSl1
set_option maxRecDepth 100000
set_option linter.unusedSimpArgs false
set_option linter.unusedVariables false
namespace Go.Proofs.Ytfdpeenamkpcbaa
open Go Go.RowKit
theorem FreshP.sub {P : Program} {f : FuncId} {args : List SV} {H0 H : Heap} {L : List Int} {len es e : Nat} {nl : Bool} {wr : Wrap} (h : FreshP P f args H0 L len es e nl wr) (ρ : Nat → Nat) (hs : subHs ρ 0 H H0) (hi : injOn ρ (H0.map (·.1))) : FreshP P f (renL ρ args) H L len es e nl wr := by
  refine ⟨h.ent, h.ok, fun B w hH => ?_⟩
  have := h.call (fun k => B (ρ k)) w ⟨fun k o hl hk => ?_, fun k j o o' g1 g2 g3 g4 he => ?_⟩
  · rw [denL_ren]
    refine this.mono fun r w' ⟨h1, h2⟩ => ⟨h1, h2.imp (fun ⟨a, b, c⟩ => ⟨a, b, c.trans (congrArg Ending.returned (Wrap.den_eq h.ok rfl))⟩) id⟩
  · obtain ⟨e1, _, _⟩ := hs k o hl
    have := hH.at_ _ _ e1 (by rw [SObj.live_ren]; exact hk)
    rw [SObj.sat_ren] at this
    exact this
  · obtain ⟨e1, _, m1⟩ := hs k o g1
    obtain ⟨e2, _, m2⟩ := hs j o' g3
    exact hi k m1 j m2 (hH.inj _ _ _ _ e1 (by rw [SObj.live_ren]; exact g2) e2 (by rw [SObj.live_ren]; exact g4) he)
theorem FreshP.one {P : Program} {f : FuncId} {args : List SV} {H : Heap} {o : SObj} {b : Nat} {L : List Int} {len es e : Nat} {nl : Bool} {wr : Wrap} (h : FreshP P f args [(0, o)] L len es e nl wr) (hb : hget H b = some o) (ho : o.ren (fun _ => b) = o) : FreshP P f (renL (fun _ => b) args) H L len es e nl wr :=
  h.sub (fun _ => b) (fun j o' hj => by
    rw [hget_cons] at hj
    split at hj
    · cases hj; exact ⟨by rw [ho]; exact hb, fun _ => by omega, by simp [*]⟩
    · cases hj) (fun a ha c hc _ => by simp at ha hc; omega)
def alN (R L : List Int) (len : Nat) : Nat := firstN (paC R L) len 0
def alS (R L : List Int) (n : Nat) : List Int := (List.range n).map fun k => bndF (paR R L k)
theorem alS_zero (R L : List Int) : alS R L 0 = [] := rfl
theorem alS_succ (R L : List Int) (n : Nat) : alS R L (n + 1) = alS R L n ++ [bndF (paR R L n)] := by simp [alS, List.range_succ]
theorem alS_len (R L : List Int) (n : Nat) : (alS R L n).length = n := by simp [alS]
def alL (R L : List Int) (len : Nat) : List Int := if igOk R len = true then alS R L (alN R L len + 1) else []
attribute [local irreducible] pourF bndF canF goodF cppB
--@tbl BoundsAlong = impl.BoundsAlong
--@tbl sBoundsAlong = spec.BoundsAlong
theorem paR_app (R L J : List Int) (len : Nat) (h : len * 2 ≤ L.length) : ∀ k, k ≤ len → paR R (L ++ J) k = paR R L k
  | 0, _ => rfl
  | k + 1, hk => by rw [paR_succ, paR_succ, paR_app R L J len h k (by omega), getD_app _ _ _ (by omega), getD_app _ _ _ (by omega)]
theorem alL_app (R L J : List Int) (len : Nat) (h : len * 2 ≤ L.length) : alL R (L ++ J) len = alL R L len := by
  have hn : alN R (L ++ J) len = alN R L len := firstN_congr len 0 fun k _ hk => by
    unfold paC
    rw [paR_app R L J len h k (by omega), getD_app _ _ _ (by omega), getD_app _ _ _ (by omega)]
  have hle : alN R L len ≤ 0 + len := firstN_le _ _ _
  unfold alL alS
  rw [hn]
  split
  · refine List.map_congr_left fun k hk => ?_
    have := List.mem_range.1 hk
    rw [paR_app R L J len h k (by omega)]
  · rfl
theorem alL_len (R L : List Int) (len : Nat) : (alL R L len).length ≤ 61 := by
  unfold alL
  split
  · rename_i h
    simp only [igOk, Bool.and_eq_true, decide_eq_true_eq] at h
    have hle : alN R L len ≤ 0 + len := firstN_le _ _ _
    rw [alS_len]; omega
  · simp
def BoundsAlong_F : List SV → Heap → Nat → Nat → K1 → Prop
  | [.arr R, .slice b 0 len _], H, n, _, κ => match hget H b with
    | some (.ints L _) => (R.length = 24 ∧ len * 2 ≤ L.length ∧ len ≤ 1048576) ∧ freshK (.more [.bool (igOk R len)]) (alL R (L.take (len * 2)) len) (alL R (L.take (len * 2)) len).length 1 3 true H n κ
    | _ => False
  | _, _, _, _, _ => False
def sBoundsAlong_F : List SV → Heap → Nat → Nat → K1 → Prop
  | [.arr R, .slice b 0 len _], H, n, _, κ => match hget H b with
    | some (.ints L _) => (R.length = 24 ∧ len * 2 ≤ L.length ∧ len ≤ 1048576) ∧ freshK (.more [.bool (igOk R len)]) (alL R (L.take (len * 2)) len) (alL R (L.take (len * 2)) len).length 1 3 false H n κ
    | _ => False
  | _, _, _, _, _ => False
end Go.Proofs.Ytfdpeenamkpcbaa
