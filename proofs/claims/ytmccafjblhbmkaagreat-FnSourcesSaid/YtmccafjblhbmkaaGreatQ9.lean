/- Texts of this claim, joined (VCut, VBig, SrcOf, SO1, Fin, FinS, FinB). -/
import Derived.Test.YtmccafjblhbmkaaGreatQ1
import Derived.Test.YtmccafjblhbmkaaGreatQ2
import Derived.Test.YtmccafjblhbmkaaGreatQ3
import Derived.Test.YtmccafjblhbmkaaGreatQ4
import Derived.Test.YtmccafjblhbmkaaGreatQ5
import Derived.Test.YtmccafjblhbmkaaGreatQ6
import Derived.Test.YtmccafjblhbmkaaGreatQ7
import Derived.Test.YtmccafjblhbmkaaGreatQ8
import Derived.Test.YtmccafjblhbmkaaGreatRows
import Derived.ProofKit
import Derived.OpenShut
set_option maxRecDepth 100000
set_option linter.unusedSimpArgs false
set_option linter.unusedVariables false
namespace Go.Proofs.YtmccafjblhbmkaaGreat
open Go Go.RowKit
theorem run_of_wp {X : Cx} {f : FuncId} {fn : Func} {c : Code} (hf : FnOK X.P f fn c X.sx X.hr) (hX : CxOK X) {p n0 : Nat} {args : List SV} {H0 : Heap} {κ : K1} (hN : args.length ≤ fn.ntmps) (hwa : wfL n0 args) (hwH : hwf n0 H0) (hp : p ≤ n0)
    (B : Nat → Nat) (M : Nat → Prop) (w : World) (hH : HR B H0 w) (hown : Own M X.m B H0) (hM : ∀ i, w.heap.size ≤ i → M i)
    (h : ∀ (a : Act) (Q : Exit → Act → World → Prop), Gs X fn.ntmps p M (argS 0 args) H0 n0 B a w → (∀ S' H' n' B' a' w', resVC X.τ S' H' n' κ fn.results.toList [] → Gs X fn.ntmps p M S' H' n' B' a' w' → Rel p M B w B' w' → Q .ret a' w') → c.wp X.P Q a w) :
    Calls X.P f (denL B args).toArray w fun e w' => ∃ v H' n' B', e = .returned (v.den B') ∧ κ v H' n' ∧ v.wf n' ∧ hwf n' H' ∧ HR B' H' w' ∧ Own M X.m B' H' ∧ Kept M w w' ∧ (∀ k, k < p → B' k = B k) ∧ p ≤ n' := by
  refine calls_of_wp hf.get hf.body ?_
  have hlen : (denL B args).toArray.size = args.length := by simp
  have hg : Gs X fn.ntmps p M (argS 0 args) H0 n0 B { tmps := (denL B args).toArray ++ Array.replicate (fn.ntmps - (denL B args).toArray.size) undef, defers := [] } w := by
    refine ⟨⟨by simp; omega, rfl, fun t v hl hk => ?_⟩, fun t v hl => ?_, hH, hwH, hown, hM, hp⟩
    · rw [argS_lookup] at hl
      simp at hl
      have ht : t < args.length := (List.getElem?_eq_some_iff.1 hl).1
      rw [Array.getElem?_append_left (by simpa using ht)]
      simp [denL_map, hl]
    · rw [argS_lookup] at hl
      simp at hl
      exact (wfL_iff n0 args).1 hwa v (List.mem_of_getElem? hl)
  refine h _ _ hg fun S' H' n' B' a' w' k g r => ?_
  obtain ⟨l, h1, h2, h3, h4⟩ := res_sound (P := X.P) hX.τ g.sr g.swf g.hr g.hwf _ [] k (by simp)
  have := results_run (fn := fn) h4 (by simpa using h1)
  refine ⟨g.sr.df, _, this, packR l, H', n', B', ?_, by simpa using h2, wf_packR fun v hv => (h3 v hv).1, g.hwf, g.hr, g.own, r.kept, r.ag, g.p⟩
  rw [den_packR]
/-- A slice's room is not less than its length. -/
def capOK : SV → Prop
  | .slice _ _ len cap => len ≤ cap
  | _ => True
/-- What is known of the code and the number of bytes that go. -/
def CutV (cv : SV) (H : Heap) (j : Nat) : Prop := (cv = .nils ∧ j = 0) ∨ ∃ (kc off len cap : Nat) (L : List Int), cv = .slice kc off len cap ∧ hget H kc = some (.winU off L) ∧ L.length = len ∧ len ≤ 1000000000 ∧ (∀ x ∈ L, 0 ≤ x ∧ x ≤ 255) ∧ len ≤ cap ∧ j ≤ len ∧ (j = 0 → len = 0)
/-- What comes of the cut. -/
def CutR (n : Nat) (H : Heap) (v : SV) (H' : Heap) (n' : Nat) : Prop := ∃ (b len : Nat) (L : List Int), v = .slice b 0 len L.length ∧ n ≤ b ∧ hget H' b = some (.cells (byV L) 5) ∧ len ≤ L.length ∧ len ≤ 1000000000 ∧ (∀ x ∈ L.take len, 0 ≤ x ∧ x ≤ 255) ∧ n ≤ n' ∧ ∀ i o, i < n → hget H i = some o → hget H' i = some o
theorem u8_tys : U8 tys 5 := ⟨fun h => (nomatch (show Kd.num .u8 = Kd.other from h)), rfl, rfl, rfl⟩
section
variable {X : Cx} {N p : Nat} {M : Nat → Prop} {S : Env} {H : Heap} {n : Nat} {B : Nat → Nat} {a : Act} {w : World}
/-- The middle state: what is left of the code lies in a block of its own. -/
def CutM (n : Nat) (H : Heap) (k : Nat) (v : SV) (H' : Heap) (n' : Nat) : Prop := ∃ (b : Nat) (L : List Int), v = .slice b 0 k L.length ∧ n ≤ b ∧ hget H' b = some (.cells (byV L) 5) ∧ k ≤ L.length ∧ (∀ x ∈ L.take k, 0 ≤ x ∧ x ≤ 255) ∧ n ≤ n' ∧ ∀ i o, i < n → hget H i = some o → hget H' i = some o
theorem fnx_vCut : FnOK Tryz.prog 11 Tryz.f11 (Tryz.f11.body.getD .skip) [] [] := ⟨Tryz.func11, rfl, by kernel_rfl, by kernel_rfl⟩
theorem win_src {kc off j k : Nat} {L : List Int} (hH : HR B H w) (hg : hget H kc = some (.winU off L)) (hk : j + k ≤ L.length) : ∀ i u, (((L.drop j).take k).map (Value.int .u8))[i]? = some u → w.cell? ((⟨B kc, off + j, none⟩ : Addr).add i) = some u := by
  obtain ⟨c, e, fz, h1, h2⟩ := hH.at_ kc _ hg rfl
  intro i u hu
  rw [add_addr]
  refine cell_at h1 ?_
  have hi : i < k := by
    rcases Nat.lt_or_ge i k with h | h
    · exact h
    · rw [List.getElem?_eq_none (by simp; omega)] at hu; cases hu
  have h3 := h2 (j + i) (by omega)
  rw [List.getElem?_map, List.getElem?_take, if_pos hi, List.getElem?_drop, List.getElem?_eq_getElem (by omega)] at hu
  rw [List.getD_eq_getElem?_getD, List.getElem?_eq_getElem (by omega)] at h3
  rw [Nat.add_assoc, h3]
  simpa using hu
theorem byt_src {b e : Nat} {y : Int} (hH : HR B H w) (hg : hget H b = some (.cells (byV [y]) e)) : ∀ i u, ([y].map (Value.int .u8))[i]? = some u → w.cell? ((⟨B b, 0, none⟩ : Addr).add i) = some u := by
  have hb := hH.at_ b _ hg rfl
  have hb : w.heap[B b]? = some (.cells (byC [y]) e (0, 0)) := by rw [← byV_den B]; exact hb
  intro i u hu
  rw [add_addr]
  refine cell_at hb ?_
  rw [Nat.zero_add]
  simpa [byC] using hu
/-- What is left of the code is laid into a new block. -/
theorem cut_app {P : Program} {ty : TypeId} {k j m : Nat} {x : SV} (hτ : TysOK P tys) {H0 : Heap} {n0 : Nat} (hH : HR B ((n0, .cells (byV []) 5) :: H0) w) (hw0 : hwf n0 H0) (hown : Own M m B ((n0, .cells (byV []) 5) :: H0)) (hM : M w.heap.size) (hm : m ≤ n0)
    (hc : (k = 0 ∧ (x = .nils ∨ ∃ b o c, x = .slice b o 0 c)) ∨ (0 < k ∧ ∃ (kc off c : Nat) (L : List Int), x = .slice kc (off + j) k c ∧ hget H0 kc = some (.winU off L) ∧ j + k = L.length ∧ (∀ x ∈ L, 0 ≤ x ∧ x ≤ 255) ∧ k ≤ 1000000000)) :
    EffRes P B M m (n0 + 1) w (do pure (.value (← Builtin.append_ ([22, 22].toArray) ty ([(SV.slice n0 0 0 0).den B, x.den B].toArray)))) (fun v H' n' => CutM n0 H0 k v H' n') := by
  have hw : hwf (n0 + 1) ((n0, .cells (byV []) 5) :: H0) := hwf_cons (hwf_mono (by omega) hw0) (by omega) (byV_wf _ _ _)
  have fr0 : ∀ i o, i < n0 → hget H0 i = some o → hget ((n0, SObj.cells (byV []) 5) :: H0) i = some o := fun i o hi ho => by rw [hget_cons, if_neg (by omega)]; exact ho
  rcases hc with ⟨rfl, hx⟩ | ⟨hk, kc, off, c, L, rfl, hg, hl, hb, hk9⟩
  · refine appE_sound (e := 5) hτ u8_tys rfl hH hw hown (by simp [SV.wf]) (Nat.le_refl 0) ?_ ?_
    · rcases hx with rfl | ⟨b, o, c, rfl⟩
      · exact .inr rfl
      · exact .inl ⟨_, _, rfl⟩
    · exact ⟨n0, [], rfl, Nat.le_refl _, by simp [hget_cons], Nat.zero_le _, fun x hx => by simp at hx, by omega, fr0⟩
  · have hkc := (hw0 _ _ hg).1
    have hl2 : ((L.drop j).take k).length = k := by rw [List.length_take, List.length_drop]; omega
    refine appU_sound (e := 5) (L := []) (news := (L.drop j).take k) (k := k) hτ u8_tys rfl hH hw hown hM (b := n0) (by simp [hget_cons]) hm (Nat.le_refl 0) rfl hk hl2 (win_src hH (fr0 _ _ hkc hg) (by omega)) (by omega) fun junk => ?_
    have e1 : (0 : Nat) + k = k := Nat.zero_add k
    rw [e1]
    refine ⟨n0 + 1, (L.drop j).take k ++ junk, ?_, by omega, by simp [hget_cons], by rw [List.length_append]; omega, fun x hx => ?_, by omega, fun i o hi ho => ?_⟩
    · rw [List.length_append, hl2]
    · rw [List.take_left' hl2] at hx
      exact hb x (List.mem_of_mem_drop (List.mem_of_mem_take hx))
    · rw [hget_cons, if_neg (by omega), hget_cons, if_neg (by omega)]
      exact fr0 i o hi ho
/-- One byte is laid behind. -/
theorem cut_one {P : Program} {ty : TypeId} {k m b b2 : Nat} {y : Int} {L : List Int} (hτ : TysOK P tys) {H0 H1 : Heap} {n0 n1 : Nat} (hH : HR B H1 w) (hw : hwf n1 H1) (hown : Own M m B H1) (hM : M w.heap.size) (hm : m ≤ n0) (hb : n0 ≤ b) (hn : n0 ≤ n1)
    (hg : hget H1 b = some (.cells (byV L) 5)) (hlc : k ≤ L.length) (hbs : ∀ x ∈ L.take k, 0 ≤ x ∧ x ≤ 255) (hg2 : hget H1 b2 = some (.cells (byV [y]) 5)) (hy : 0 ≤ y ∧ y ≤ 255) (hk9 : k + 1 ≤ 1000000000) (hfr : ∀ i o, i < n0 → hget H0 i = some o → hget H1 i = some o) :
    EffRes P B M m n1 w (do pure (.value (← Builtin.append_ ([22, 22].toArray) ty ([(SV.slice b 0 k L.length).den B, (SV.slice b2 0 1 1).den B].toArray)))) (fun v H' n' => CutR n0 H0 v H' n') := by
  refine appU_sound (e := 5) (L := L) (news := [y]) (k := 1) hτ u8_tys rfl hH hw hown hM (b := b) hg (by omega) hlc rfl (by omega) rfl (byt_src hH hg2) (by omega) fun junk => ?_
  have hl : (L.take k ++ [y]).length = k + 1 := by rw [List.length_append, List.length_take]; simp; omega
  refine ⟨n1, k + 1, L.take k ++ [y] ++ junk, ?_, hn, by simp [hget_cons], by rw [List.length_append]; omega, hk9, fun x hx => ?_, by omega, fun i o hi ho => ?_⟩
  · rw [List.length_append, hl]
  · rw [List.take_left' hl] at hx
    rcases List.mem_append.1 hx with hx | hx
    · exact hbs x hx
    · simp at hx; subst hx; exact hy
  · rw [hget_cons, if_neg (by omega), hget_cons, if_neg (by omega)]
    exact hfr i o hi ho
end
theorem HR.win {B : Nat → Nat} {H : Heap} {w : World} {b len e : Nat} {L : List Int} (h : HR B H w) (hg : hget H b = some (.cells (byV L) e)) (hl : len ≤ L.length) : HR B ((b, .winU 0 (L.take len)) :: H) w := by
  have hb := h.at_ b _ hg rfl
  have hb : w.heap[B b]? = some (.cells (byC L) e (0, 0)) := by rw [← byV_den B]; exact hb
  refine ⟨fun k o ho hk => ?_, fun k j o1 o2 h1 h2 h3 h4 he => ?_⟩
  · rw [hget_cons] at ho
    split at ho
    · rename_i hkb
      subst hkb
      cases ho
      refine ⟨_, _, _, hb, fun i hi => ?_⟩
      have hi2 : i < len ∧ i < L.length := by rw [List.length_take] at hi; omega
      rw [Nat.zero_add, List.getD_eq_getElem?_getD, List.getElem?_take, if_pos hi2.1, List.getElem?_eq_getElem hi2.2]
      simp [byC, List.getElem?_eq_getElem hi2.2]
    · exact h.at_ k o ho hk
  · rw [hget_cons] at h1 h3
    split at h1 <;> split at h3
    · omega
    · rename_i e1 _; subst e1; exact h.inj _ _ _ _ hg rfl h3 h4 he
    · rename_i _ e1; subst e1; exact h.inj _ _ _ _ h1 h2 hg rfl he
    · exact h.inj _ _ _ _ h1 h2 h3 h4 he
set_option maxHeartbeats 1000000 in
theorem vCut_ok {cv : SV} {z : Int} {H : Heap} {n m : Nat} {κ : K1} (hB : BytA cv H) (hcap : capOK cv) (hz : z = 1 ∨ z = 2) (hmn : m ≤ n) (hκ : ∀ (b len cap : Nat) H' n', BytA (.slice b 0 len cap) H' → Kpt n H H' n' → κ (.slice b 0 len cap) H' n') : GenOK Tryz.prog 11 [cv, .int z] H n m κ := by
  refine ⟨fnx_vCut.ent, fun B M w hH hwH hwa hown hM => ?_⟩
  have hX : CxOK (⟨Tryz.prog, tys, [], [], true, true, m, [], []⟩ : Cx) := ⟨tys_ok, .nil, .nil, mixed⟩
  refine (run_of_wp (X := ⟨Tryz.prog, tys, [], [], true, true, m, [], []⟩) (κ := fun v H' n' => CutR n H v H' n') fnx_vCut hX (Nat.le_of_ble_eq_true rfl) hwa hwH (Nat.le_refl n) B M w hH hown hM fun a Q hg hQ => ?_).mono fun e w' h => ?_
  · refine wp_seq (code_sound hX _ _ _ _ _ _ _ (fun e S' H' n' => e = .normal ∧ S' = [(4, .nils), (0, cv), (1, .int z)] ∧ H' = H ∧ n' = n) _ rfl hg ?_ ?_)
    · exact ⟨rfl, rfl, rfl, rfl⟩
    rintro e S1 H1 n1 B1 a1 w1 ⟨rfl, rfl, rfl, rfl⟩ g1 r1
    refine wp_seq (code_sound hX _ _ _ _ _ _ _ (fun e S' H' n' => e = .normal ∧ H' = H1 ∧ n' = n1 ∧ ∃ j : Nat, sget S' 0 = cv ∧ sget S' 1 = .int j ∧ CutV cv H1 j ∧ j ≤ 2) _ rfl g1 ?_ ?_)
    · rcases hB with rfl | ⟨kc, off, len, cap, L, rfl, hh, hl, h9, hb⟩
      · have hz0 : (0 : Int) < z := by omega
        simp -implicitDefEqProofs only [hz0, ZB, Int.reduceToNat, Nat.reduceLT, Nat.reduceLeDiff, Int.reduceLE, Int.reduceLT, Nat.reduceEqDiff, Nat.reduceSub, SB, SV.known, packR, ne_eq, reduceCtorEq, Nat.reduceEqDiff, ↓reduceIte, if_true, if_false, eq_self, Nat.reduceAdd, Nat.reduceMul, Nat.reduceSub, forall_const, oneCellS, litOne, flat1, Kd.isSca, flat, TYB]
        exact ⟨0, rfl, .inl ⟨rfl, rfl⟩, by omega⟩
      · have hcap' : len ≤ cap := hcap
        by_cases hzl : (len : Int) < z
        · simp -implicitDefEqProofs only [hzl, ZB, Int.reduceToNat, Nat.reduceLT, Nat.reduceLeDiff, Int.reduceLE, Int.reduceLT, Nat.reduceEqDiff, Nat.reduceSub, SB, SV.known, packR, ne_eq, reduceCtorEq, Nat.reduceEqDiff, ↓reduceIte, if_true, if_false, eq_self, Nat.reduceAdd, Nat.reduceMul, Nat.reduceSub, forall_const, oneCellS, litOne, flat1, Kd.isSca, flat, TYB]
          exact ⟨len, rfl, .inr ⟨kc, off, len, cap, L, rfl, hh, hl, h9, hb, hcap', Nat.le_refl _, fun h => h⟩, by omega⟩
        · simp -implicitDefEqProofs only [hzl, ZB, Int.reduceToNat, Nat.reduceLT, Nat.reduceLeDiff, Int.reduceLE, Int.reduceLT, Nat.reduceEqDiff, Nat.reduceSub, SB, SV.known, packR, ne_eq, reduceCtorEq, Nat.reduceEqDiff, ↓reduceIte, if_true, if_false, eq_self, Nat.reduceAdd, Nat.reduceMul, Nat.reduceSub, forall_const, oneCellS, litOne, flat1, Kd.isSca, flat, TYB]
          exact ⟨z.toNat, (Int.toNat_of_nonneg (by omega)).symm, .inr ⟨kc, off, len, cap, L, rfl, hh, hl, h9, hb, hcap', by omega, fun h => by omega⟩, by omega⟩
    rintro e S2 H2 n2 B2 a2 w2 ⟨rfl, rfl, rfl, j, s0, s1, hcut, hj⟩ g2 r2
    refine wp_seq (wp_region_list ?_)
    obtain ⟨k, hk9, hsl⟩ : ∃ k, k + 1 ≤ 1000000000 ∧ ∃ x, ((k = 0 ∧ (x = .nils ∨ ∃ b o c, x = .slice b o 0 c)) ∨ (0 < k ∧ ∃ (kc off c : Nat) (L : List Int), x = .slice kc (off + j) k c ∧ hget H2 kc = some (.winU off L) ∧ j + k = L.length ∧ (∀ x ∈ L, 0 ≤ x ∧ x ≤ 255) ∧ k ≤ 1000000000)) ∧
        ∀ (H' : Heap) (n' : Nat) (κ : K1), κ x H' n' → sliceVC tys (tys 22) cv (some (.int j)) none H' n' κ := by
      rcases hcut with ⟨rfl, rfl⟩ | ⟨kc, off, len, cap, L, rfl, hh, hl, h9, hb, hc, hjl, hj0⟩
      · exact ⟨0, by omega, .nils, .inl ⟨rfl, .inl rfl⟩, fun H' n' κ h => ⟨fun h => (nomatch (show Kd.num .u8 = Kd.other from h)), by omega, by omega, h⟩⟩
      · refine ⟨len - j, by omega, .slice kc (cutOff cap j off 1) (len - j) (cap - j), ?_, fun H' n' κ h => ⟨fun h => (nomatch (show Kd.num .u8 = Kd.other from h)), ?_⟩⟩
        · by_cases h0 : len - j = 0
          · exact .inl ⟨h0, .inr ⟨kc, _, _, by rw [h0]⟩⟩
          · refine .inr ⟨by omega, kc, off, cap - j, L, ?_, hh, by omega, hb, by omega⟩
            unfold cutOff
            rw [if_neg (by omega), Nat.mul_one]
        · exact ⟨by omega, by omega, h⟩
    obtain ⟨x, hx, hsl⟩ := hsl
    have y255 : 0 ≤ IntKind.u8.wrap (j : Int) ∧ IntKind.u8.wrap (j : Int) ≤ 255 := by
      rcases (show j = 0 ∨ j = 1 ∨ j = 2 by omega) with rfl | rfl | rfl <;> decide
    refine ops_eff (κ := fun v H' n' => v = .slice n2 0 0 0 ∧ H' = (n2, .cells (byV []) 5) :: H2 ∧ n' = n2 + 1) _ rfl rfl g2 (exec_bs (vs := ([] : List (Nat × Value)).toArray) rfl (by simp) (bs0_sound (e := 5) hX.τ u8_tys rfl g2.hr g2.hwf g2.own (g2.new _ (Nat.le_refl _)) ?_)) ?_
    · exact ⟨rfl, rfl, rfl⟩
    rintro v3 H3 n3 B3 a3 w3 ⟨rfl, rfl, rfl⟩ g3 r3
    refine ops_norm (κ := fun v H' n' => v = cv ∧ H' = (n2, .cells (byV []) 5) :: H2 ∧ n' = n2 + 1) hX _ (q := false) rfl rfl g3 ⟨s0, rfl, rfl⟩ ?_
    rintro v4 H4 n4 B4 a4 w4 ⟨rfl, rfl, rfl⟩ g4 r4
    refine ops_norm (κ := fun v H' n' => v = .int j ∧ H' = (n2, .cells (byV []) 5) :: H2 ∧ n' = n2 + 1) hX _ (q := false) rfl rfl g4 ⟨s1, rfl, rfl⟩ ?_
    rintro v5 H5 n5 B5 a5 w5 ⟨rfl, rfl, rfl⟩ g5 r5
    refine ops_norm (κ := fun v H' n' => v = x ∧ H' = (n2, .cells (byV []) 5) :: H2 ∧ n' = n2 + 1) hX _ (q := false) rfl rfl g5 ⟨rfl, hsl _ _ (fun v H' n' => v = x ∧ H' = (n2, .cells (byV []) 5) :: H2 ∧ n' = n2 + 1) ⟨rfl, rfl, rfl⟩⟩ ?_
    rintro v6 H6 n6 B6 a6 w6 ⟨rfl, rfl, rfl⟩ g6 r6
    have kx : v6.known = true := by
      rcases hx with ⟨_, rfl | ⟨_, _, _, rfl⟩⟩ | ⟨_, _, _, _, _, rfl, _⟩ <;> rfl
    have d1 : a6.eval (.tmp 11) = (SV.slice n2 0 0 0).den B6 := ev_den g6.sr (.tmp 11) rfl
    have d2 : a6.eval (.tmp 14) = v6.den B6 := ev_den g6.sr (.tmp 14) kx
    refine ops_eff (κ := fun v H' n' => CutM n2 H2 k v H' n') _ rfl rfl g6 (exec_app rfl rfl (by simp [d1, d2]) rfl (cut_app (j := j) hX.τ g6.hr g2.hwf g6.own (g6.new _ (Nat.le_refl _)) hmn hx)) ?_
    rintro v7 H7 n7 B7 a7 w7 ⟨b, L, rfl, hb, hg7, hlc, hbs, hn7, hfr⟩ g7 r7
    refine ops_norm (κ := fun v H' n' => v = .int j ∧ H' = H7 ∧ n' = n7) hX _ (q := false) rfl rfl g7 ⟨s1, rfl, rfl⟩ ?_
    rintro v8 H8 n8 B8 a8 w8 ⟨rfl, rfl, rfl⟩ g8 r8
    refine ops_norm (κ := fun v H' n' => v = .lit (.int .u8 (IntKind.u8.wrap j)) ∧ H' = H8 ∧ n' = n8) hX _ (q := false) rfl rfl g8 ⟨rfl, rfl, rfl, rfl⟩ ?_
    rintro v9 H9 n9 B9 a9 w9 ⟨rfl, rfl, rfl⟩ g9 r9
    have d3 : a9.eval (.tmp 17) = .int .u8 (IntKind.u8.wrap j) := ev_den g9.sr (.tmp 17) rfl
    refine ops_eff (κ := fun v H' n' => v = .slice n9 0 1 1 ∧ H' = (n9, .cells (byV [IntKind.u8.wrap j]) 5) :: H9 ∧ n' = n9 + 1) _ rfl rfl g9 (exec_bs (vs := ([(0, Value.int .u8 (IntKind.u8.wrap j))]).toArray) rfl (by simp [d3]) (bs1_sound (e := 5) hX.τ u8_tys rfl g9.hr g9.hwf g9.own (g9.new _ (Nat.le_refl _)) ?_)) ?_
    · exact ⟨rfl, rfl, rfl⟩
    rintro v10 H10 n10 B10 a10 w10 ⟨rfl, rfl, rfl⟩ g10 r10
    have d4 : a10.eval (.tmp 15) = (SV.slice b 0 k L.length).den B10 := ev_den g10.sr (.tmp 15) rfl
    have d5 : a10.eval (.tmp 18) = (SV.slice n9 0 1 1).den B10 := ev_den g10.sr (.tmp 18) rfl
    have hbn := (g9.hwf _ _ hg7).1
    refine ops_eff (κ := fun v H' n' => CutR n2 H2 v H' n') _ rfl rfl g10 (exec_app rfl rfl (by simp [d4, d5]) rfl (cut_one (b2 := n9) hX.τ g10.hr g10.hwf g10.own (g10.new _ (Nat.le_refl _)) hmn hb (by omega) (by rw [hget_cons, if_neg (by omega)]; exact hg7) hlc hbs (by simp [hget_cons]) y255 hk9 (fun i o hi ho => by rw [hget_cons, if_neg (by omega)]; exact hfr i o hi ho))) ?_
    rintro v11 H11 n11 B11 a11 w11 ⟨b', len', L', rfl, hrest⟩ g11 r11
    refine ops_norm (κ := fun v H' n' => v = .slice b' 0 len' L'.length ∧ H' = H11 ∧ n' = n11) hX _ (q := false) rfl rfl g11 ⟨rfl, rfl, rfl⟩ ?_
    rintro v12 H12 n12 B12 a12 w12 ⟨rfl, rfl, rfl⟩ g12 r12
    unfold wpList
    exact wp_ret (hQ _ _ _ _ _ _ ⟨rfl, b', len', L', rfl, hrest⟩ g12 (r1.trans (r2.trans (r3.trans (r4.trans (r5.trans (r6.trans (r7.trans (r8.trans (r9.trans (r10.trans (r11.trans r12)))))))))))) 
  · obtain ⟨v, H', n', B', rfl, ⟨b, len, L, rfl, hb, hg, hlc, h9, hbs, hn, hfr⟩, hwv, hwf', hH', hown', hkept, hag, hp⟩ := h
    have hbn := (hwf' _ _ hg).1
    have hwf2 : hwf n' ((b, .winU 0 (L.take len)) :: H') := hwf_cons hwf' hbn trivial
    refine ⟨_, (b, .winU 0 (L.take len)) :: H', n', B', rfl, hκ _ _ _ _ _ (.inr ⟨b, 0, len, L.length, L.take len, rfl, by simp [hget_cons], by rw [List.length_take]; omega, h9, hbs⟩) ⟨hn, hwf2, fun i o hi ho => by rw [hget_cons, if_neg (by omega)]; exact hfr i o hi ho⟩, hn, hwv, hwf2, hag, hH'.win hg hlc, fun k o ho hk hmk => ?_, hkept⟩
    rw [hget_cons] at ho
    split at ho
    · rename_i e1; subst e1; exact hown' _ _ hg rfl hmk
    · exact hown' _ _ ho hk hmk
--@tbl vCut = laws.vCut
def vCut_F : List SV → Heap → Nat → Nat → K1 → Prop
  | [cv, .int z], H, n, m, κ => BytA cv H ∧ capOK cv ∧ (z = 1 ∨ z = 2) ∧ m ≤ n ∧ ∀ (b len cap : Nat) H' n', BytA (.slice b 0 len cap) H' → Kpt n H H' n' → κ (.slice b 0 len cap) H' n'
  | _, _, _, _, _ => False
theorem vCut_T : ∀ args H n m κ, vCut_F args H n m κ → GenOK Tryz.prog 11 args H n m κ := by
  intro args H n m κ h
  unfold vCut_F at h
  split at h
  · obtain ⟨h1, h2, h3, h4, h5⟩ := h
    exact vCut_ok h1 h2 h3 h4 h5
  · exact h.elim
theorem cut_use {cv : SV} {z : Int} {H : Heap} {n m : Nat} {κ : K1} (h1 : BytA cv H) (h2 : capOK cv) (h3 : z = 1 ∨ z = 2) (h4 : m ≤ n) (h5 : ∀ (b len cap : Nat) H' n', BytA (.slice b 0 len cap) H' → Kpt n H H' n' → κ (.slice b 0 len cap) H' n') : vCut_F [cv, .int z] H n m κ := ⟨h1, h2, h3, h4, h5⟩
end Go.Proofs.YtmccafjblhbmkaaGreat
set_option maxRecDepth 100000
set_option linter.unusedSimpArgs false
set_option linter.unusedVariables false
namespace Go.Proofs.YtmccafjblhbmkaaGreat
open Go Go.RowKit
theorem vBig_ok (L : List Int) (off len cap : Nat) : PureH Tryz.prog 6 [.slice 0 off len cap] [(0, .winU off L)] (.bool (decide (65536 < (len : Int)))) := by
  refine pure_of_vc (X := ⟨Tryz.prog, tys, [], [], true, true, 1, [], []⟩) fn_6 ⟨tys_ok, .nil, .nil, mixed⟩ (n0 := 1) (Nat.le_of_ble_eq_true rfl) (by simp [wfL, SV.wf]) (wfH_spec (by simp [wfH, SObj.wf])) (Nat.le_refl _) (fun _ => by simp [SV.wf, wfL]) ?_
  simp -implicitDefEqProofs only [Tryz.f6, Option.getD_some, argS, ZB, Int.reduceToNat, Nat.reduceLT, Nat.reduceLeDiff, Int.reduceLE, Int.reduceLT, Nat.reduceEqDiff, Nat.reduceSub, SB, SV.known, packR, ne_eq, reduceCtorEq, Nat.reduceEqDiff, ↓reduceIte, if_true, if_false, eq_self, Nat.reduceAdd, Nat.reduceMul, Nat.reduceSub, forall_const, oneCellS, litOne, flat1, Kd.isSca, flat, TYB]
theorem vBig_nil (H : Heap) : PureH Tryz.prog 6 [.nils] H (.bool false) := by
  refine PureH.any ?_ H
  refine pure_of_vc (X := ⟨Tryz.prog, tys, [], [], true, true, 0, [], []⟩) fn_6 ⟨tys_ok, .nil, .nil, mixed⟩ (n0 := 0) (Nat.le_of_ble_eq_true rfl) (by simp [wfL, SV.wf]) (wfH_spec (by simp [wfH, SObj.wf])) (Nat.le_refl _) (fun _ => by simp [SV.wf, wfL]) ?_
  simp -implicitDefEqProofs only [Tryz.f6, Option.getD_some, argS, ZB, Int.reduceToNat, Nat.reduceLT, Nat.reduceLeDiff, Int.reduceLE, Int.reduceLT, Nat.reduceEqDiff, Nat.reduceSub, SB, SV.known, packR, ne_eq, reduceCtorEq, Nat.reduceEqDiff, ↓reduceIte, if_true, if_false, eq_self, Nat.reduceAdd, Nat.reduceMul, Nat.reduceSub, forall_const, oneCellS, litOne, flat1, Kd.isSca, flat, TYB]
def vBig_F : List SV → Heap → Option (Prop × SV)
  | [.slice a o len _], H => match hget H a with
    | some (.winU off _) => some (o = off, .bool (decide (65536 < (len : Int))))
    | _ => none
  | [.nils], _ => some (True, .bool false)
  | _, _ => none
theorem vBig_T : ∀ args H p v, vBig_F args H = some (p, v) → p → PureH Tryz.prog 6 args H v := by
  intro args H p v h hp
  unfold vBig_F at h
  split at h
  · rename_i a o len cap
    split at h
    · rename_i off L g
      cases h
      subst hp
      exact one_block (vBig_ok L o len cap) g rfl (fun _ => trivial)
    · cases h
  · cases h
    exact vBig_nil H
  · cases h
end Go.Proofs.YtmccafjblhbmkaaGreat
set_option maxRecDepth 100000
set_option linter.unusedSimpArgs false
set_option linter.unusedVariables false
namespace Go.Proofs.YtmccafjblhbmkaaGreat
open Go Go.RowKit
def soF (R : List Int) : List Int := if rackB R = true then SrL R 144 else []
theorem soF_three (R : List Int) : ∃ k, (soF R).length = k * 3 ∧ k ≤ 144 := by
  unfold soF
  split
  · exact SrL_three R 144
  · exact ⟨0, rfl, by omega⟩
theorem SourcesOf_ok (R : List Int) (hR : R.length = 24) : FreshP Tryz.prog 25 [.arr R] [] (soF R) ((soF R).length / 3) 3 48 true (.more [.bool (rackB R)]) := by
  have tkR : R.take 24 = R := List.take_of_length_le (by omega)
  unfold soF
  cases hr : rackB R
  · refine fresh_of_vc (X := ⟨Tryz.prog, tys, [(62, IsRack_F)], [(89, sources_F)], true, true, 0, [], []⟩) fn_25 ⟨tys_ok, (.cons IsRack_T .nil), (.cons sources_T .nil), mixed⟩ (n0 := 0) rfl (Nat.le_of_ble_eq_true rfl) (by simp [wfL, SV.wf]) (wfH_spec (by simp [wfH, SObj.wf])) (Nat.le_refl _) ?_
    simp -implicitDefEqProofs only [Tryz.f25, Option.getD_some, argS, IsRack_F, sources_F, hR, tkR, hr, freshK, Wrap.ap, ZB, Int.reduceToNat, Nat.reduceLT, Nat.reduceLeDiff, Int.reduceLE, Int.reduceLT, Nat.reduceEqDiff, Nat.reduceSub, SB, SV.known, packR, ne_eq, reduceCtorEq, Nat.reduceEqDiff, ↓reduceIte, if_true, if_false, eq_self, Nat.reduceAdd, Nat.reduceMul, Nat.reduceSub, forall_const, oneCellS, litOne, flat1, Kd.isSca, flat, TYB]
    exact .inl ⟨rfl, rfl, rfl⟩
  · refine fresh_of_vc (X := ⟨Tryz.prog, tys, [(62, IsRack_F)], [(89, sources_F)], true, true, 0, [], []⟩) fn_25 ⟨tys_ok, (.cons IsRack_T .nil), (.cons sources_T .nil), mixed⟩ (n0 := 0) rfl (Nat.le_of_ble_eq_true rfl) (by simp [wfL, SV.wf]) (wfH_spec (by simp [wfH, SObj.wf])) (Nat.le_refl _) ?_
    simp -implicitDefEqProofs only [Tryz.f25, Option.getD_some, argS, IsRack_F, sources_F, hR, tkR, hr, freshK, Wrap.ap, ZB, Int.reduceToNat, Nat.reduceLT, Nat.reduceLeDiff, Int.reduceLE, Int.reduceLT, Nat.reduceEqDiff, Nat.reduceSub, SB, SV.known, packR, ne_eq, reduceCtorEq, Nat.reduceEqDiff, ↓reduceIte, if_true, if_false, eq_self, Nat.reduceAdd, Nat.reduceMul, Nat.reduceSub, forall_const, oneCellS, litOne, flat1, Kd.isSca, flat, TYB]
    exact ⟨fun h => .inl ⟨rfl, h, rfl⟩, fun h cap junk hj => .inr ⟨1, cap, junk, rfl, by simp [hget_cons], by omega, hj, by simpa using h⟩⟩
theorem sSourcesOf_ok (R : List Int) (hR : R.length = 24) : FreshP Tryz.prog 26 [.arr R] [] (soF R) ((soF R).length / 3) 3 48 false (.more [.bool (rackB R)]) := by
  have tkR : R.take 24 = R := List.take_of_length_le (by omega)
  unfold soF
  cases hr : rackB R
  · refine fresh_of_vc (X := ⟨Tryz.prog, tys, [(64, l2Rack_F)], [(90, l5Sources_F)], true, true, 0, [], []⟩) fn_26 ⟨tys_ok, (.cons l2Rack_T .nil), (.cons l5Sources_T .nil), mixed⟩ (n0 := 0) rfl (Nat.le_of_ble_eq_true rfl) (by simp [wfL, SV.wf]) (wfH_spec (by simp [wfH, SObj.wf])) (Nat.le_refl _) ?_
    simp -implicitDefEqProofs only [Tryz.f26, Option.getD_some, argS, l2Rack_F, l5Sources_F, hR, tkR, hr, freshK, Wrap.ap, ZB, Int.reduceToNat, Nat.reduceLT, Nat.reduceLeDiff, Int.reduceLE, Int.reduceLT, Nat.reduceEqDiff, Nat.reduceSub, SB, SV.known, packR, ne_eq, reduceCtorEq, Nat.reduceEqDiff, ↓reduceIte, if_true, if_false, eq_self, Nat.reduceAdd, Nat.reduceMul, Nat.reduceSub, forall_const, oneCellS, litOne, flat1, Kd.isSca, flat, TYB]
    exact .inr ⟨1, 0, [], rfl, by simp [hget_cons], by omega, rfl, by simp⟩
  · refine fresh_of_vc (X := ⟨Tryz.prog, tys, [(64, l2Rack_F)], [(90, l5Sources_F)], true, true, 0, [], []⟩) fn_26 ⟨tys_ok, (.cons l2Rack_T .nil), (.cons l5Sources_T .nil), mixed⟩ (n0 := 0) rfl (Nat.le_of_ble_eq_true rfl) (by simp [wfL, SV.wf]) (wfH_spec (by simp [wfH, SObj.wf])) (Nat.le_refl _) ?_
    simp -implicitDefEqProofs only [Tryz.f26, Option.getD_some, argS, l2Rack_F, l5Sources_F, hR, tkR, hr, freshK, Wrap.ap, ZB, Int.reduceToNat, Nat.reduceLT, Nat.reduceLeDiff, Int.reduceLE, Int.reduceLT, Nat.reduceEqDiff, Nat.reduceSub, SB, SV.known, packR, ne_eq, reduceCtorEq, Nat.reduceEqDiff, ↓reduceIte, if_true, if_false, eq_self, Nat.reduceAdd, Nat.reduceMul, Nat.reduceSub, forall_const, oneCellS, litOne, flat1, Kd.isSca, flat, TYB]
    exact fun cap junk hj => .inr ⟨1, cap, junk, rfl, by simp [hget_cons], by omega, hj, by simp⟩
def SourcesOf_F : List SV → Heap → Nat → Nat → K1 → Prop
  | [.arr R], H, n, _, κ => (R.length = 24) ∧ freshK (.more [.bool (rackB R)]) (soF R) ((soF R).length / 3) 3 48 (true) H n κ
  | _, _, _, _, _ => False
--@tbl SourcesOf = impl.SourcesOf
theorem SourcesOf_T : ∀ args H n m κ, SourcesOf_F args H n m κ → GenOK Tryz.prog 25 args H n m κ := by
  intro args H n m κ h
  unfold SourcesOf_F at h
  split at h
  · exact gen_of_fresh (SourcesOf_ok _ h.1) (fun k o hk => by cases hk) h.2
  · exact h.elim
def sSourcesOf_F : List SV → Heap → Nat → Nat → K1 → Prop
  | [.arr R], H, n, _, κ => (R.length = 24) ∧ freshK (.more [.bool (rackB R)]) (soF R) ((soF R).length / 3) 3 48 (false) H n κ
  | _, _, _, _, _ => False
--@tbl sSourcesOf = spec.SourcesOf
theorem sSourcesOf_T : ∀ args H n m κ, sSourcesOf_F args H n m κ → GenOK Tryz.prog 26 args H n m κ := by
  intro args H n m κ h
  unfold sSourcesOf_F at h
  split at h
  · exact gen_of_fresh (sSourcesOf_ok _ h.1) (fun k o hk => by cases hk) h.2
  · exact h.elim
end Go.Proofs.YtmccafjblhbmkaaGreat
set_option maxRecDepth 100000
set_option linter.unusedSimpArgs false
set_option linter.unusedVariables false
namespace Go.Proofs.YtmccafjblhbmkaaGreat
open Go Go.RowKit
abbrev soK : KE := retK tys Tryz.f4.results.toList fun v _ _ => v = .bool true
structure SoS (S : Env) (H : Heap) (n : Nat) (R s A B : List Int) (r q b x y : Nat) (va vr vg vt : SV) : Prop where
  s3 : sget S 3 = .ptr r 0
  s4 : sget S 4 = .ptr q 0
  s5 : sget S 5 = .ptr b 0
  s6 : sget S 6 = .bool (pbkB R s)
  s9 : sget S 9 = va
  s10 : sget S 10 = .bool (rackB R)
  s13 : sget S 13 = vr
  s17 : sget S 17 = .bool (rackB R && decide (SrL R 144 = []))
  s21 : sget S 21 = .int (cfF R)
  s25 : sget S 25 = vg
  s29 : sget S 29 = .ptr x 0
  s30 : sget S 30 = .ptr y 0
  s31 : sget S 31 = vt
  s32 : sget S 32 = .bool (btoB A B)
  hr : hget H r = some (.ints R 27)
  hq : hget H q = some (.ints s 48)
  hb : hget H b = some (.ints (pbkT R s) 27)
  hx : hget H x = some (.ints A 27)
  hy : hget H y = some (.ints B 27)
  la : SlA va (soF R) ((soF R).length / 3) 3 48 0 n H
  lr : SlA vr (rbL R).flatten (rbL R).length 24 27 0 n H
  lg : SlA vg (gbL R).flatten (gbL R).length 24 27 0 n H
  lt_ : SlA vt (btoF A B) ((btoF A B).length / 3) 3 48 0 n H
  lt : r < n ∧ q < n ∧ b < n ∧ x < n ∧ y < n
  wf : hwf n H
  one : 1 ≤ n
theorem SoS.up {S S' : Env} {H H' : Heap} {n n' : Nat} {R s A B : List Int} {r q b x y : Nat} {va vr vg vt : SV} (h : SoS S H n R s A B r q b x y va vr vg vt) (hs : ∀ t, t ≤ 34 → sget S' t = sget S t) (hK : Kpt n H H' n') : SoS S' H' n' R s A B r q b x y va vr vg vt := by
  have := h.lt
  have := h.one
  have hh := hK.fr
  have hn := hK.le
  exact ⟨by rw [hs 3 (by omega)]; exact h.s3, by rw [hs 4 (by omega)]; exact h.s4, by rw [hs 5 (by omega)]; exact h.s5, by rw [hs 6 (by omega)]; exact h.s6, by rw [hs 9 (by omega)]; exact h.s9, by rw [hs 10 (by omega)]; exact h.s10, by rw [hs 13 (by omega)]; exact h.s13,
    by rw [hs 17 (by omega)]; exact h.s17, by rw [hs 21 (by omega)]; exact h.s21, by rw [hs 25 (by omega)]; exact h.s25, by rw [hs 29 (by omega)]; exact h.s29, by rw [hs 30 (by omega)]; exact h.s30, by rw [hs 31 (by omega)]; exact h.s31, by rw [hs 32 (by omega)]; exact h.s32,
    hh _ _ (by omega) h.hr, hh _ _ (by omega) h.hq, hh _ _ (by omega) h.hb, hh _ _ (by omega) h.hx, hh _ _ (by omega) h.hy, (h.la.up hh).wk (Nat.le_refl _) hn, (h.lr.up hh).wk (Nat.le_refl _) hn, (h.lg.up hh).wk (Nat.le_refl _) hn, (h.lt_.up hh).wk (Nat.le_refl _) hn, by omega, hK.wf, by omega⟩
theorem SoS.re {S S' : Env} {H : Heap} {n : Nat} {R s A B : List Int} {r q b x y : Nat} {va vr vg vt : SV} (h : SoS S H n R s A B r q b x y va vr vg vt) (h3 : sget S' 3 = .ptr r 0) (h4 : sget S' 4 = .ptr q 0) (h5 : sget S' 5 = .ptr b 0) (h6 : sget S' 6 = .bool (pbkB R s)) (h9 : sget S' 9 = va) (h10 : sget S' 10 = .bool (rackB R)) (h13 : sget S' 13 = vr)
    (h17 : sget S' 17 = .bool (rackB R && decide (SrL R 144 = []))) (h21 : sget S' 21 = .int (cfF R)) (h25 : sget S' 25 = vg) (h29 : sget S' 29 = .ptr x 0) (h30 : sget S' 30 = .ptr y 0) (h31 : sget S' 31 = vt) (h32 : sget S' 32 = .bool (btoB A B)) : SoS S' H n R s A B r q b x y va vr vg vt :=
  ⟨h3, h4, h5, h6, h9, h10, h13, h17, h21, h25, h29, h30, h31, h32, h.hr, h.hq, h.hb, h.hx, h.hy, h.la, h.lr, h.lg, h.lt_, h.lt, h.wf, h.one⟩
theorem so_up {S S' : Env} (h : ∀ t, t ≤ 34 → sget S' t = sget S t) {k : Nat} {v : SV} (hk : 34 < k) : ∀ t, t ≤ 34 → sget ((k, v) :: S') t = sget S t := fun t ht => by rw [sget_skip _ _ _ _ (by omega)]; exact h t ht
/-- A pour and the way back. -/
theorem so_pb {R : List Int} (hR : R.length = 24) (hr : rackB R = true) {x y : Nat} (hx : x < 6) (hy : y < 6) (hc : canF R x y = true) : pourB R x y = true ∧ pourT R x y = pourF R x y ∧ pourM R x y = pmN R x y ∧ pbkB (pourF R x y) [(x : Int), (y : Int), pmN R x y] = true ∧ pbkT (pourF R x y) [(x : Int), (y : Int), pmN R x y] = R := by
  have hp : pourB R x y = true := by
    unfold pourB plF
    rw [hr, hc, decide_eq_true (show 0 ≤ (x : Int) ∧ (x : Int) ≤ 5 by omega), decide_eq_true (show 0 ≤ (y : Int) ∧ (y : Int) ≤ 5 by omega)]; rfl
  obtain ⟨b1, b2⟩ := pb_ok hR hr hx hy hc
  have hN := pour_rack (i := x) (j := y) hR hr (by omega) (by omega) hc
  rw [Int.toNat_natCast, Int.toNat_natCast] at hN
  refine ⟨hp, by unfold pourT; rw [if_pos hp]; rfl, by unfold pourM; rw [if_pos hp]; rfl, ?_, ?_⟩
  · unfold pbkB
    simp only [List.getD_cons_zero, List.getD_cons_succ]
    rw [hN, b1]; rfl
  · unfold pbkT bkT
    simp only [List.getD_cons_zero, List.getD_cons_succ]
    rw [if_pos hN, if_pos b1]; exact b2
/-- Sources that are listed. -/
theorem so_src {R : List Int} (hR : R.length = 24) (hr : rackB R = true) {i : Nat} (hi : i < (triL R).length) (j : List Int) : ∃ s : List Int, ((SrL R 144 ++ j).drop (i * 3)).take 3 = s ∧ s.length = 3 ∧ pbkB R s = true ∧ (pbkT R s).length = 24 ∧ (rbL R).any (fun z => decide (z = pbkT R s)) = true := by
  have hn := SrL_n R
  obtain ⟨a, b, c, e⟩ := triL_at R hi
  have hb := (triL_mem hR hr).1 (show [a, b, c] ∈ triL R by rw [← e]; exact getD_mem hi)
  have hp : pbkT R [a, b, c] = bkR R a b c := by
    unfold pbkT bkT
    simp only [List.getD_cons_zero, List.getD_cons_succ]
    rw [if_pos hr, if_pos hb]
  refine ⟨[a, b, c], ?_, rfl, ?_, by rw [hp]; exact bkR_len hR _ _ _, ?_⟩
  · rw [List.drop_append_of_le_length (by omega), List.take_append_of_le_length (by rw [List.length_drop]; omega), SrL_get R hi, e]
  · unfold pbkB
    simp only [List.getD_cons_zero, List.getD_cons_succ]
    rw [hr, hb]; rfl
  · have := befL_at hR hi
    rw [e] at this
    simp only [List.getD_cons_zero, List.getD_cons_succ] at this
    rw [hp]
    unfold rbL
    rw [if_pos hr]
    exact List.any_eq_true.2 ⟨_, this, by simp⟩
theorem any_take (Q : List (List Int)) (X : List Int) {k : Nat} (hk : k < Q.length) : (Q.take (k + 1)).any (fun z => decide (z = X)) = ((Q.take k).any (fun z => decide (z = X)) || decide (Q.getD k [] = X)) := by
  rw [take_succ_getD Q k hk, List.any_append]; simp
set_option maxHeartbeats 2000000 in
theorem so_b25 (S : Env) (H : Heap) (n : Nat) (R s A B : List Int) (r q b x y : Nat) (va vr vg vt : SV) (hE : SoS S H n R s A B r q b x y va vr vg vt) (hR : R.length = 24) (hrk : rackB R = true) : codeVC (⟨Tryz.prog, tys, [(6, vBig_F), (23, PourBack_F), (24, sPourBack_F), (29, IsGarden_F), (30, sIsGarden_F), (31, CountFormsBefore_F), (32, sCountFormsBefore_F), (38, vSources_F), (39, vRacks_F), (40, Pour_F)], [(22, DrawPourBack_F), (25, SourcesOf_F), (26, sSourcesOf_F), (27, RacksBefore_F), (28, sRacksBefore_F), (33, GardensBefore_F), (34, sGardensBefore_F), (11, vCut_F), (35, DrawBackTo_F), (36, BackTo_F), (37, sBackTo_F), (41, PoursOf_F)], true, true, 1, [], []⟩ : Cx) 1 (cdN 25 (Tryz.f4.body.getD .skip)) S H n soK := by
  have s3 := hE.s3
  have hr := hE.hr
  have hlt := hE.lt
  have hwf0 := hE.wf
  have tkR : R.take 24 = R := List.take_of_length_le (by omega)
  obtain ⟨np, hnp, hnp36⟩ := PL_even R 36
  have ehp : (PL R 36).length / 2 = np := by omega
  have eP : poF R = PL R 36 := by unfold poF; rw [if_pos hrk]
  simp only [cdN, cd2, Tryz.f4, Option.getD_some, soK]
  simp -implicitDefEqProofs only [s3, hr, hrk, hR, tkR, eP, ehp, PourBack_F, sPourBack_F, IsGarden_F, sIsGarden_F, CountFormsBefore_F, sCountFormsBefore_F, Pour_F, PoursOf_F, SourcesOf_F, sSourcesOf_F, RacksBefore_F, sRacksBefore_F, GardensBefore_F, sGardensBefore_F, BackTo_F, sBackTo_F, Wrap.ap, eqI_rack, eqI_src, Nat.add_assoc, add_self, self_add, add_add, List.getD_cons_zero, List.getD_cons_succ, ZB, Int.reduceToNat, Nat.reduceLT, Nat.reduceLeDiff, Int.reduceLE, Int.reduceLT, Nat.reduceEqDiff, Nat.reduceSub, SB, SV.known, packR, ne_eq, reduceCtorEq, Nat.reduceEqDiff, ↓reduceIte, if_true, if_false, eq_self, Nat.reduceAdd, Nat.reduceMul, Nat.reduceSub, forall_const, oneCellS, litOne, flat1, Kd.isSca, flat, TYB]
  refine freshK_of (fun h0 => ?_) fun cp jp hjp => ?_
  · simp -implicitDefEqProofs only [s3, hr, hrk, hR, tkR, PourBack_F, sPourBack_F, IsGarden_F, sIsGarden_F, CountFormsBefore_F, sCountFormsBefore_F, Pour_F, PoursOf_F, SourcesOf_F, sSourcesOf_F, RacksBefore_F, sRacksBefore_F, GardensBefore_F, sGardensBefore_F, BackTo_F, sBackTo_F, Wrap.ap, eqI_rack, eqI_src, Nat.add_assoc, add_self, self_add, add_add, List.getD_cons_zero, List.getD_cons_succ, ZB, Int.reduceToNat, Nat.reduceLT, Nat.reduceLeDiff, Int.reduceLE, Int.reduceLT, Nat.reduceEqDiff, Nat.reduceSub, SB, SV.known, packR, ne_eq, reduceCtorEq, Nat.reduceEqDiff, ↓reduceIte, if_true, if_false, eq_self, Nat.reduceAdd, Nat.reduceMul, Nat.reduceSub, forall_const, oneCellS, litOne, flat1, Kd.isSca, flat, TYB]
    refine loop_introN (fun _ : Unit => [(55, .int 0), (54, .bool true), (53, .nils)]) (fun _ => H) (fun _ => n) (fun _ => True) (fun _ => 0) ?_ ?_
    · exact ⟨(), trivial, Sub.same (by simp only [s3, LB, subS, subH, wfS, wfH, SV.ren, renL, SObj.ren, SV.wf, SObj.wf, wfL, SV.known, Nat.reduceEqDiff, ↓reduceIte, if_true, if_false, eq_self, Nat.reduceAdd, Nat.reduceLT, Nat.reduceLeDiff, implies_true, reduceCtorEq, forall_const]; try rfl) (by simp [subS, subH, wfS, wfH, SV.ren, renL, SObj.ren, SV.wf, SObj.wf, wfL, sget_cons, hget_cons] <;> omega) hwf0 (by omega)⟩
    · intro _ _
      simp -implicitDefEqProofs only [lk_normal, PourBack_F, sPourBack_F, IsGarden_F, sIsGarden_F, CountFormsBefore_F, sCountFormsBefore_F, Pour_F, PoursOf_F, SourcesOf_F, sSourcesOf_F, RacksBefore_F, sRacksBefore_F, GardensBefore_F, sGardensBefore_F, BackTo_F, sBackTo_F, Wrap.ap, eqI_rack, eqI_src, Nat.add_assoc, add_self, self_add, add_add, List.getD_cons_zero, List.getD_cons_succ, ZB, Int.reduceToNat, Nat.reduceLT, Nat.reduceLeDiff, Int.reduceLE, Int.reduceLT, Nat.reduceEqDiff, Nat.reduceSub, SB, SV.known, packR, ne_eq, reduceCtorEq, Nat.reduceEqDiff, ↓reduceIte, if_true, if_false, eq_self, Nat.reduceAdd, Nat.reduceMul, Nat.reduceSub, forall_const, oneCellS, litOne, flat1, Kd.isSca, flat, TYB]
  · simp -implicitDefEqProofs only [s3, hr, hrk, hR, tkR, PourBack_F, sPourBack_F, IsGarden_F, sIsGarden_F, CountFormsBefore_F, sCountFormsBefore_F, Pour_F, PoursOf_F, SourcesOf_F, sSourcesOf_F, RacksBefore_F, sRacksBefore_F, GardensBefore_F, sGardensBefore_F, BackTo_F, sBackTo_F, Wrap.ap, eqI_rack, eqI_src, Nat.add_assoc, add_self, self_add, add_add, List.getD_cons_zero, List.getD_cons_succ, ZB, Int.reduceToNat, Nat.reduceLT, Nat.reduceLeDiff, Int.reduceLE, Int.reduceLT, Nat.reduceEqDiff, Nat.reduceSub, SB, SV.known, packR, ne_eq, reduceCtorEq, Nat.reduceEqDiff, ↓reduceIte, if_true, if_false, eq_self, Nat.reduceAdd, Nat.reduceMul, Nat.reduceSub, forall_const, oneCellS, litOne, flat1, Kd.isSca, flat, TYB]
    have hK0 : Kpt n H ((n, .ints (PL R 36 ++ jp) 65) :: H) (n + 1) := (Kpt.refl hwf0).push
    refine loop_introN (fun s : Nat × Heap × Nat => [(55, .int s.1), (54, .bool true), (53, .slice n 0 np cp), (3, .ptr r 0)]) (fun s => s.2.1) (fun s => s.2.2) (fun s => s.1 ≤ np ∧ Kpt (n + 1) ((n, .ints (PL R 36 ++ jp) 65) :: H) s.2.1 s.2.2) (fun s => np - s.1) ?_ ?_
    · exact ⟨(0, _, n + 1), ⟨Nat.zero_le _, Kpt.refl hK0.wf⟩, Sub.same (by simp only [s3, LB, subS, subH, wfS, wfH, SV.ren, renL, SObj.ren, SV.wf, SObj.wf, wfL, SV.known, Nat.reduceEqDiff, ↓reduceIte, if_true, if_false, eq_self, Nat.reduceAdd, Nat.reduceLT, Nat.reduceLeDiff, implies_true, reduceCtorEq, forall_const]; try rfl) (by simp [subS, subH, wfS, wfH, SV.ren, renL, SObj.ren, SV.wf, SObj.wf, wfL, sget_cons, hget_cons] <;> omega) hK0.wf (by show 1 ≤ n + 1; omega)⟩
    · rintro ⟨i, H1, n1⟩ ⟨hi, hK1⟩
      simp only at hi hK1
      have hle1 := hK1.le
      have gr := hK1.fr r _ (by omega) (show hget _ r = some (.ints R 27) by rw [hget_cons, if_neg (by omega)]; exact hr)
      have gp := hK1.fr n _ (by omega) (show hget _ n = some (.ints (PL R 36 ++ jp) 65) by simp [hget_cons])
      have lenP : (PL R 36 ++ jp).length = cp * 2 := by rw [List.length_append]; omega
      by_cases hin : i < np
      · have hil : (i : Int) < np := by omega
        obtain ⟨a, b', ha, hb', hc, ga, gb, lN, iN⟩ := pl_pair hR hrk (q := i) (by omega)
        have eP0 : (PL R 36 ++ jp).getD (i * 2) 0 = (a : Int) := by rw [getD_app _ _ _ (by omega), ga]
        have eP1 : (PL R 36 ++ jp).getD (i * 2 + 1) 0 = (b' : Int) := by rw [getD_app _ _ _ (by omega), gb]
        obtain ⟨p1, p2, p3, p4, p5⟩ := so_pb hR hrk ha hb' hc
        have tkN : (pourF R a b').take 24 = pourF R a b' := List.take_of_length_le (by omega)
        have d1 : (r = n1) = False := by simp; omega
        have d2 : ∀ k, (r = n1 + k) = False := fun k => by simp; omega
        have d3 : (n = n1) = False := by simp; omega
        have d4 : ∀ k, (n = n1 + k) = False := fun k => by simp; omega
        simp -implicitDefEqProofs only [lk_normal, hil, eP0, eP1, lenP, gr, gp, d1, d2, d3, d4, hR, tkR, p1, p2, p3, p4, p5, lN, tkN, PourBack_F, sPourBack_F, IsGarden_F, sIsGarden_F, CountFormsBefore_F, sCountFormsBefore_F, Pour_F, PoursOf_F, SourcesOf_F, sSourcesOf_F, RacksBefore_F, sRacksBefore_F, GardensBefore_F, sGardensBefore_F, BackTo_F, sBackTo_F, Wrap.ap, eqI_rack, eqI_src, Nat.add_assoc, add_self, self_add, add_add, List.getD_cons_zero, List.getD_cons_succ, ZB, Int.reduceToNat, Nat.reduceLT, Nat.reduceLeDiff, Int.reduceLE, Int.reduceLT, Nat.reduceEqDiff, Nat.reduceSub, SB, SV.known, packR, ne_eq, reduceCtorEq, Nat.reduceEqDiff, ↓reduceIte, if_true, if_false, eq_self, Nat.reduceAdd, Nat.reduceMul, Nat.reduceSub, forall_const, oneCellS, litOne, flat1, Kd.isSca, flat, TYB]
        exact ⟨by omega, by omega, by omega, by omega, by omega, by omega, by omega, by omega, by omega, by unfold In64; omega, (i + 1, _, n1 + 2), ⟨by show i + 1 ≤ np; omega, (((hK1.push).put (by omega)).push).put (by omega)⟩, by show np - (i + 1) < np - i; omega,
          Sub.same (by simp only [d1, d2, d3, d4, LB, subS, subH, wfS, wfH, SV.ren, renL, SObj.ren, SV.wf, SObj.wf, wfL, SV.known, Nat.reduceEqDiff, ↓reduceIte, if_true, if_false, eq_self, Nat.reduceAdd, Nat.reduceLT, Nat.reduceLeDiff, implies_true, reduceCtorEq, forall_const]; try rfl) (by simp [subS, subH, wfS, wfH, SV.ren, renL, SObj.ren, SV.wf, SObj.wf, wfL, sget_cons, hget_cons] <;> omega) ((((hK1.push).put (by omega)).push).put (by omega) : Kpt (n + 1) _ _ (n1 + 2)).wf (by show 1 ≤ n1 + 2; omega)⟩
      · have hil : ¬ (i : Int) < np := by omega
        simp -implicitDefEqProofs only [lk_normal, hil, PourBack_F, sPourBack_F, IsGarden_F, sIsGarden_F, CountFormsBefore_F, sCountFormsBefore_F, Pour_F, PoursOf_F, SourcesOf_F, sSourcesOf_F, RacksBefore_F, sRacksBefore_F, GardensBefore_F, sGardensBefore_F, BackTo_F, sBackTo_F, Wrap.ap, eqI_rack, eqI_src, Nat.add_assoc, add_self, self_add, add_add, List.getD_cons_zero, List.getD_cons_succ, ZB, Int.reduceToNat, Nat.reduceLT, Nat.reduceLeDiff, Int.reduceLE, Int.reduceLT, Nat.reduceEqDiff, Nat.reduceSub, SB, SV.known, packR, ne_eq, reduceCtorEq, Nat.reduceEqDiff, ↓reduceIte, if_true, if_false, eq_self, Nat.reduceAdd, Nat.reduceMul, Nat.reduceSub, forall_const, oneCellS, litOne, flat1, Kd.isSca, flat, TYB]
set_option maxHeartbeats 2000000 in
theorem so_b24 (S : Env) (H : Heap) (n : Nat) (R s A B : List Int) (r q b x y : Nat) (va vr vg vt : SV) (hE : SoS S H n R s A B r q b x y va vr vg vt) (hR : R.length = 24) (hrk : rackB R = true) : codeVC (⟨Tryz.prog, tys, [(6, vBig_F), (23, PourBack_F), (24, sPourBack_F), (29, IsGarden_F), (30, sIsGarden_F), (31, CountFormsBefore_F), (32, sCountFormsBefore_F), (38, vSources_F), (39, vRacks_F), (40, Pour_F)], [(22, DrawPourBack_F), (25, SourcesOf_F), (26, sSourcesOf_F), (27, RacksBefore_F), (28, sRacksBefore_F), (33, GardensBefore_F), (34, sGardensBefore_F), (11, vCut_F), (35, DrawBackTo_F), (36, BackTo_F), (37, sBackTo_F), (41, PoursOf_F)], true, true, 1, [], []⟩ : Cx) 1 (cdN 24 (Tryz.f4.body.getD .skip)) S H n soK := by
  have hE0 := hE
  obtain ⟨s3, s4, s5, s6, s9, s10, s13, s17, s21, s25, s29, s30, s31, s32, hr, hq, hb, hx, hy, la, lr, lg, lt_, hlt, hwf0, h1n⟩ := hE
  have ka := la.kn
  have kr := lr.kn
  have kg := lg.kn
  have kt := lt_.kn
  have ja := ka
  have jr := kr
  have jg := kg
  have jt := kt
  simp only [SV.known] at ja jr jg jt
  have wa := la.wfv (Nat.le_refl n)
  have wr := lr.wfv (Nat.le_refl n)
  have wg := lg.wfv (Nat.le_refl n)
  have wt := lt_.wfv (Nat.le_refl n)
  have tkR : R.take 24 = R := List.take_of_length_le (by omega)
  rw [cd_cut (show cdN 24 (Tryz.f4.body.getD .skip) = .seq (cd1 (cdN 24 (Tryz.f4.body.getD .skip))) (cdN 25 (Tryz.f4.body.getD .skip)) from rfl)]
  have next := fun S' H' n' (h : SoS S' H' n' R s A B r q b x y va vr vg vt) => so_b25 S' H' n' R s A B r q b x y va vr vg vt h hR hrk
  obtain ⟨cn, en⟩ : ∃ c, c = cdN 25 (Tryz.f4.body.getD .skip) := ⟨_, rfl⟩
  rw [← en] at next ⊢
  simp only [cdN, cd1, cd2, Tryz.f4, Option.getD_some]
  have l24 := gbL_24 hR
  have hfl := flat_len l24
  have hg : ∀ X ∈ gbL R, rackB X = true ∧ SrL X 144 = [] := fun X hX => by
    unfold gbL at hX
    rw [if_pos hrk] at hX
    unfold gaL at hX
    obtain ⟨h1, h2⟩ := List.mem_filter.1 hX
    exact ⟨befL_rack hR hrk X h1, by simpa using h2⟩
  have hle := gbL_le hR
  rcases lg.at_ with ⟨eg, h0⟩ | ⟨bg, cap, junk, eg, b1, b2, gg⟩
  · simp -implicitDefEqProofs only [s25, eg, PourBack_F, sPourBack_F, IsGarden_F, sIsGarden_F, CountFormsBefore_F, sCountFormsBefore_F, Pour_F, PoursOf_F, SourcesOf_F, sSourcesOf_F, RacksBefore_F, sRacksBefore_F, GardensBefore_F, sGardensBefore_F, BackTo_F, sBackTo_F, Wrap.ap, eqI_rack, eqI_src, Nat.add_assoc, add_self, self_add, add_add, List.getD_cons_zero, List.getD_cons_succ, ZB, Int.reduceToNat, Nat.reduceLT, Nat.reduceLeDiff, Int.reduceLE, Int.reduceLT, Nat.reduceEqDiff, Nat.reduceSub, SB, SV.known, packR, ne_eq, reduceCtorEq, Nat.reduceEqDiff, ↓reduceIte, if_true, if_false, eq_self, Nat.reduceAdd, Nat.reduceMul, Nat.reduceSub, forall_const, oneCellS, litOne, flat1, Kd.isSca, flat, TYB]
    refine loop_introN (fun _ : Unit => [(50, .int 0), (3, .ptr r 0), (4, .ptr q 0), (5, .ptr b 0), (6, .bool (pbkB R s)), (9, va), (10, .bool (rackB R)), (13, vr), (17, .bool (rackB R && decide (SrL R 144 = []))), (21, .int (cfF R)), (25, vg), (29, .ptr x 0), (30, .ptr y 0), (31, vt), (32, .bool (btoB A B))]) (fun _ => H) (fun _ => n) (fun _ => True) (fun _ => 0) ?_ ?_
    · exact ⟨(), trivial, Sub.same (by simp only [s3, s4, s5, s6, s9, s10, s13, s17, s21, s25, s29, s30, s31, s32, ka, kr, kg, kt, ja, jr, jg, jt, SV.ren_id, LB, subS, subH, wfS, wfH, SV.ren, renL, SObj.ren, SV.wf, SObj.wf, wfL, SV.known, Nat.reduceEqDiff, ↓reduceIte, if_true, if_false, eq_self, Nat.reduceAdd, Nat.reduceLT, Nat.reduceLeDiff, implies_true, reduceCtorEq, forall_const]; try rfl) (by simp [subS, subH, wfS, wfH, SV.ren, renL, SObj.ren, SV.wf, SObj.wf, wfL, sget_cons, hget_cons, wa, wr, wg, wt] <;> omega) hwf0 h1n⟩
    · intro _ _
      simp -implicitDefEqProofs only [lk_normal, eg, PourBack_F, sPourBack_F, IsGarden_F, sIsGarden_F, CountFormsBefore_F, sCountFormsBefore_F, Pour_F, PoursOf_F, SourcesOf_F, sSourcesOf_F, RacksBefore_F, sRacksBefore_F, GardensBefore_F, sGardensBefore_F, BackTo_F, sBackTo_F, Wrap.ap, eqI_rack, eqI_src, Nat.add_assoc, add_self, self_add, add_add, List.getD_cons_zero, List.getD_cons_succ, ZB, Int.reduceToNat, Nat.reduceLT, Nat.reduceLeDiff, Int.reduceLE, Int.reduceLT, Nat.reduceEqDiff, Nat.reduceSub, SB, SV.known, packR, ne_eq, reduceCtorEq, Nat.reduceEqDiff, ↓reduceIte, if_true, if_false, eq_self, Nat.reduceAdd, Nat.reduceMul, Nat.reduceSub, forall_const, oneCellS, litOne, flat1, Kd.isSca, flat, TYB]
      exact next _ _ _ (hE0.re rfl rfl rfl rfl rfl rfl rfl rfl rfl eg.symm rfl rfl rfl rfl)
  · simp -implicitDefEqProofs only [s25, eg, PourBack_F, sPourBack_F, IsGarden_F, sIsGarden_F, CountFormsBefore_F, sCountFormsBefore_F, Pour_F, PoursOf_F, SourcesOf_F, sSourcesOf_F, RacksBefore_F, sRacksBefore_F, GardensBefore_F, sGardensBefore_F, BackTo_F, sBackTo_F, Wrap.ap, eqI_rack, eqI_src, Nat.add_assoc, add_self, self_add, add_add, List.getD_cons_zero, List.getD_cons_succ, ZB, Int.reduceToNat, Nat.reduceLT, Nat.reduceLeDiff, Int.reduceLE, Int.reduceLT, Nat.reduceEqDiff, Nat.reduceSub, SB, SV.known, packR, ne_eq, reduceCtorEq, Nat.reduceEqDiff, ↓reduceIte, if_true, if_false, eq_self, Nat.reduceAdd, Nat.reduceMul, Nat.reduceSub, forall_const, oneCellS, litOne, flat1, Kd.isSca, flat, TYB]
    obtain ⟨m, hm⟩ : ∃ m, (gbL R).length = m := ⟨_, rfl⟩
    rw [hm] at hfl hle eg
    refine loop_introN (fun i : Nat => [(50, .int i), (3, .ptr r 0), (4, .ptr q 0), (5, .ptr b 0), (6, .bool (pbkB R s)), (9, va), (10, .bool (rackB R)), (13, vr), (17, .bool (rackB R && decide (SrL R 144 = []))), (21, .int (cfF R)), (25, vg), (29, .ptr x 0), (30, .ptr y 0), (31, vt), (32, .bool (btoB A B))]) (fun _ => H) (fun _ => n) (fun i => i ≤ m) (fun i => m - i) ?_ ?_
    · exact ⟨0, Nat.zero_le _, Sub.same (by simp only [s3, s4, s5, s6, s9, s10, s13, s17, s21, s25, s29, s30, s31, s32, ka, kr, kg, kt, ja, jr, jg, jt, SV.ren_id, LB, subS, subH, wfS, wfH, SV.ren, renL, SObj.ren, SV.wf, SObj.wf, wfL, SV.known, Nat.reduceEqDiff, ↓reduceIte, if_true, if_false, eq_self, Nat.reduceAdd, Nat.reduceLT, Nat.reduceLeDiff, implies_true, reduceCtorEq, forall_const]; try rfl) (by simp [subS, subH, wfS, wfH, SV.ren, renL, SObj.ren, SV.wf, SObj.wf, wfL, sget_cons, hget_cons, wa, wr, wg, wt] <;> omega) hwf0 h1n⟩
    · intro i hi
      by_cases hin : i < m
      · have hil : (i : Int) < m := by omega
        have eX := flat_get l24 (i := i) (by omega) junk
        obtain ⟨gX1, gX2⟩ := hg _ (getD_mem (i := i) (by omega))
        have lX : ((gbL R).getD i []).length = 24 := l24 _ (getD_mem (i := i) (by omega))
        have tkX : ((gbL R).getD i []).take 24 = (gbL R).getD i [] := List.take_of_length_le (by omega)
        have lQ : i * 24 + 24 ≤ ((gbL R).flatten ++ junk).length := by rw [List.length_append, hfl]; omega
        simp -implicitDefEqProofs only [lk_normal, eg, hm, hil, gg, eX, gX1, gX2, lX, tkX, lQ, PourBack_F, sPourBack_F, IsGarden_F, sIsGarden_F, CountFormsBefore_F, sCountFormsBefore_F, Pour_F, PoursOf_F, SourcesOf_F, sSourcesOf_F, RacksBefore_F, sRacksBefore_F, GardensBefore_F, sGardensBefore_F, BackTo_F, sBackTo_F, Wrap.ap, eqI_rack, eqI_src, Nat.add_assoc, add_self, self_add, add_add, List.getD_cons_zero, List.getD_cons_succ, ZB, Int.reduceToNat, Nat.reduceLT, Nat.reduceLeDiff, Int.reduceLE, Int.reduceLT, Nat.reduceEqDiff, Nat.reduceSub, SB, SV.known, packR, ne_eq, reduceCtorEq, Nat.reduceEqDiff, ↓reduceIte, if_true, if_false, eq_self, Nat.reduceAdd, Nat.reduceMul, Nat.reduceSub, forall_const, oneCellS, litOne, flat1, Kd.isSca, flat, TYB]
        exact ⟨by omega, by unfold In64; omega, i + 1, by omega, by omega, Sub.same (by simp only [eg, ka, kr, kg, kt, ja, jr, jg, jt, SV.ren_id, LB, subS, subH, wfS, wfH, SV.ren, renL, SObj.ren, SV.wf, SObj.wf, wfL, SV.known, Nat.reduceEqDiff, ↓reduceIte, if_true, if_false, eq_self, Nat.reduceAdd, Nat.reduceLT, Nat.reduceLeDiff, implies_true, reduceCtorEq, forall_const]; try rfl) (by simp [subS, subH, wfS, wfH, SV.ren, renL, SObj.ren, SV.wf, SObj.wf, wfL, sget_cons, hget_cons, wa, wr, wg, wt] <;> omega) hwf0 h1n⟩
      · have hil : ¬ (i : Int) < m := by omega
        simp -implicitDefEqProofs only [lk_normal, eg, hm, hil, PourBack_F, sPourBack_F, IsGarden_F, sIsGarden_F, CountFormsBefore_F, sCountFormsBefore_F, Pour_F, PoursOf_F, SourcesOf_F, sSourcesOf_F, RacksBefore_F, sRacksBefore_F, GardensBefore_F, sGardensBefore_F, BackTo_F, sBackTo_F, Wrap.ap, eqI_rack, eqI_src, Nat.add_assoc, add_self, self_add, add_add, List.getD_cons_zero, List.getD_cons_succ, ZB, Int.reduceToNat, Nat.reduceLT, Nat.reduceLeDiff, Int.reduceLE, Int.reduceLT, Nat.reduceEqDiff, Nat.reduceSub, SB, SV.known, packR, ne_eq, reduceCtorEq, Nat.reduceEqDiff, ↓reduceIte, if_true, if_false, eq_self, Nat.reduceAdd, Nat.reduceMul, Nat.reduceSub, forall_const, oneCellS, litOne, flat1, Kd.isSca, flat, TYB]
        exact next _ _ _ (hE0.re rfl rfl rfl rfl rfl rfl rfl rfl rfl eg.symm rfl rfl rfl rfl)
set_option maxHeartbeats 4000000 in
theorem so_b23 (S : Env) (H : Heap) (n : Nat) (R s A B : List Int) (r q b x y : Nat) (va vr vg vt : SV) (hE : SoS S H n R s A B r q b x y va vr vg vt) (hR : R.length = 24) (hrk : rackB R = true) : codeVC (⟨Tryz.prog, tys, [(6, vBig_F), (23, PourBack_F), (24, sPourBack_F), (29, IsGarden_F), (30, sIsGarden_F), (31, CountFormsBefore_F), (32, sCountFormsBefore_F), (38, vSources_F), (39, vRacks_F), (40, Pour_F)], [(22, DrawPourBack_F), (25, SourcesOf_F), (26, sSourcesOf_F), (27, RacksBefore_F), (28, sRacksBefore_F), (33, GardensBefore_F), (34, sGardensBefore_F), (11, vCut_F), (35, DrawBackTo_F), (36, BackTo_F), (37, sBackTo_F), (41, PoursOf_F)], true, true, 1, [], []⟩ : Cx) 1 (cdN 23 (Tryz.f4.body.getD .skip)) S H n soK := by
  have hE0 := hE
  obtain ⟨s3, s4, s5, s6, s9, s10, s13, s17, s21, s25, s29, s30, s31, s32, hr, hq, hb, hx, hy, la, lr, lg, lt_, hlt, hwf0, h1n⟩ := hE
  have ka := la.kn
  have kr := lr.kn
  have kg := lg.kn
  have kt := lt_.kn
  have ja := ka
  have jr := kr
  have jg := kg
  have jt := kt
  simp only [SV.known] at ja jr jg jt
  have wa := la.wfv (Nat.le_refl n)
  have wr := lr.wfv (Nat.le_refl n)
  have wg := lg.wfv (Nat.le_refl n)
  have wt := lt_.wfv (Nat.le_refl n)
  have tkR : R.take 24 = R := List.take_of_length_le (by omega)
  rw [cd_cut (show cdN 23 (Tryz.f4.body.getD .skip) = .seq (cd1 (cdN 23 (Tryz.f4.body.getD .skip))) (cdN 24 (Tryz.f4.body.getD .skip)) from rfl)]
  have next := fun S' H' n' (h : SoS S' H' n' R s A B r q b x y va vr vg vt) => so_b24 S' H' n' R s A B r q b x y va vr vg vt h hR hrk
  obtain ⟨cn, en⟩ : ∃ c, c = cdN 24 (Tryz.f4.body.getD .skip) := ⟨_, rfl⟩
  rw [← en] at next ⊢
  simp only [cdN, cd1, cd2, Tryz.f4, Option.getD_some]
  have eS : soF R = SrL R 144 := by unfold soF; rw [if_pos hrk]
  have hSn := SrL_n R
  have l24 := rbL_24 hR
  have hfl := flat_len l24
  have hle := rbL_le hR
  have eL : (soF R).length / 3 = (triL R).length := by rw [eS]; omega
  rw [eL, eS] at la
  have hln : (triL R).length ≤ 144 := by
    obtain ⟨k, h1, h2⟩ := SrL_three R 144; omega
  obtain ⟨m, hm⟩ : ∃ m, (triL R).length = m := ⟨_, rfl⟩
  have hsrc := fun i (hi : i < m) j => so_src hR hrk (i := i) (by omega) j
  rw [hm] at la hln hSn
  rcases la.at_ with ⟨eg, h0⟩ | ⟨bg, cap, junk, eg, b1, b2, gg⟩
  · simp -implicitDefEqProofs only [s9, eg, PourBack_F, sPourBack_F, IsGarden_F, sIsGarden_F, CountFormsBefore_F, sCountFormsBefore_F, Pour_F, PoursOf_F, SourcesOf_F, sSourcesOf_F, RacksBefore_F, sRacksBefore_F, GardensBefore_F, sGardensBefore_F, BackTo_F, sBackTo_F, Wrap.ap, eqI_rack, eqI_src, Nat.add_assoc, add_self, self_add, add_add, List.getD_cons_zero, List.getD_cons_succ, ZB, Int.reduceToNat, Nat.reduceLT, Nat.reduceLeDiff, Int.reduceLE, Int.reduceLT, Nat.reduceEqDiff, Nat.reduceSub, SB, SV.known, packR, ne_eq, reduceCtorEq, Nat.reduceEqDiff, ↓reduceIte, if_true, if_false, eq_self, Nat.reduceAdd, Nat.reduceMul, Nat.reduceSub, forall_const, oneCellS, litOne, flat1, Kd.isSca, flat, TYB]
    refine loop_introN (fun _ : Unit => [(45, .int 0), (3, .ptr r 0), (4, .ptr q 0), (5, .ptr b 0), (6, .bool (pbkB R s)), (9, va), (10, .bool (rackB R)), (13, vr), (17, .bool (rackB R && decide (SrL R 144 = []))), (21, .int (cfF R)), (25, vg), (29, .ptr x 0), (30, .ptr y 0), (31, vt), (32, .bool (btoB A B))]) (fun _ => H) (fun _ => n) (fun _ => True) (fun _ => 0) ?_ ?_
    · exact ⟨(), trivial, Sub.same (by simp only [s3, s4, s5, s6, s9, s10, s13, s17, s21, s25, s29, s30, s31, s32, ka, kr, kg, kt, ja, jr, jg, jt, SV.ren_id, LB, subS, subH, wfS, wfH, SV.ren, renL, SObj.ren, SV.wf, SObj.wf, wfL, SV.known, Nat.reduceEqDiff, ↓reduceIte, if_true, if_false, eq_self, Nat.reduceAdd, Nat.reduceLT, Nat.reduceLeDiff, implies_true, reduceCtorEq, forall_const]; try rfl) (by simp [subS, subH, wfS, wfH, SV.ren, renL, SObj.ren, SV.wf, SObj.wf, wfL, sget_cons, hget_cons, wa, wr, wg, wt] <;> omega) hwf0 h1n⟩
    · intro _ _
      simp -implicitDefEqProofs only [lk_normal, eg, PourBack_F, sPourBack_F, IsGarden_F, sIsGarden_F, CountFormsBefore_F, sCountFormsBefore_F, Pour_F, PoursOf_F, SourcesOf_F, sSourcesOf_F, RacksBefore_F, sRacksBefore_F, GardensBefore_F, sGardensBefore_F, BackTo_F, sBackTo_F, Wrap.ap, eqI_rack, eqI_src, Nat.add_assoc, add_self, self_add, add_add, List.getD_cons_zero, List.getD_cons_succ, ZB, Int.reduceToNat, Nat.reduceLT, Nat.reduceLeDiff, Int.reduceLE, Int.reduceLT, Nat.reduceEqDiff, Nat.reduceSub, SB, SV.known, packR, ne_eq, reduceCtorEq, Nat.reduceEqDiff, ↓reduceIte, if_true, if_false, eq_self, Nat.reduceAdd, Nat.reduceMul, Nat.reduceSub, forall_const, oneCellS, litOne, flat1, Kd.isSca, flat, TYB]
      exact next _ _ _ (hE0.re rfl rfl rfl rfl eg.symm rfl rfl rfl rfl rfl rfl rfl rfl rfl)
  · simp -implicitDefEqProofs only [s9, eg, PourBack_F, sPourBack_F, IsGarden_F, sIsGarden_F, CountFormsBefore_F, sCountFormsBefore_F, Pour_F, PoursOf_F, SourcesOf_F, sSourcesOf_F, RacksBefore_F, sRacksBefore_F, GardensBefore_F, sGardensBefore_F, BackTo_F, sBackTo_F, Wrap.ap, eqI_rack, eqI_src, Nat.add_assoc, add_self, self_add, add_add, List.getD_cons_zero, List.getD_cons_succ, ZB, Int.reduceToNat, Nat.reduceLT, Nat.reduceLeDiff, Int.reduceLE, Int.reduceLT, Nat.reduceEqDiff, Nat.reduceSub, SB, SV.known, packR, ne_eq, reduceCtorEq, Nat.reduceEqDiff, ↓reduceIte, if_true, if_false, eq_self, Nat.reduceAdd, Nat.reduceMul, Nat.reduceSub, forall_const, oneCellS, litOne, flat1, Kd.isSca, flat, TYB]
    refine loop_introN (fun s' : Nat × Heap × Nat => [(45, .int s'.1), (3, .ptr r 0), (4, .ptr q 0), (5, .ptr b 0), (6, .bool (pbkB R s)), (9, va), (10, .bool (rackB R)), (13, vr), (17, .bool (rackB R && decide (SrL R 144 = []))), (21, .int (cfF R)), (25, vg), (29, .ptr x 0), (30, .ptr y 0), (31, vt), (32, .bool (btoB A B))]) (fun s' => s'.2.1) (fun s' => s'.2.2) (fun s' => s'.1 ≤ m ∧ Kpt n H s'.2.1 s'.2.2) (fun s' => m - s'.1) ?_ ?_
    · exact ⟨(0, H, n), ⟨Nat.zero_le _, Kpt.refl hwf0⟩, Sub.same (by simp only [s3, s4, s5, s6, s9, s10, s13, s17, s21, s25, s29, s30, s31, s32, ka, kr, kg, kt, ja, jr, jg, jt, SV.ren_id, LB, subS, subH, wfS, wfH, SV.ren, renL, SObj.ren, SV.wf, SObj.wf, wfL, SV.known, Nat.reduceEqDiff, ↓reduceIte, if_true, if_false, eq_self, Nat.reduceAdd, Nat.reduceLT, Nat.reduceLeDiff, implies_true, reduceCtorEq, forall_const]; try rfl) (by simp [subS, subH, wfS, wfH, SV.ren, renL, SObj.ren, SV.wf, SObj.wf, wfL, sget_cons, hget_cons, wa, wr, wg, wt] <;> omega) hwf0 h1n⟩
    · rintro ⟨i, H1, n1⟩ ⟨hi, hK1⟩
      simp only at hi hK1
      have hle1 := hK1.le
      by_cases hin : i < m
      · have hil : (i : Int) < m := by omega
        obtain ⟨t, et, lt3, pb1, pb2, pb3⟩ := hsrc i hin junk
        have tk3 : t.take 3 = t := List.take_of_length_le (by omega)
        have gr1 := hK1.fr r _ (by omega) hr
        have gg1 := hK1.fr bg _ (by omega) gg
        have lQ : i * 3 + 3 ≤ (SrL R 144 ++ junk).length := by rw [List.length_append]; omega
        have d1 : (r = n1) = False := by simp; omega
        have d2 : (bg = n1) = False := by simp; omega
        obtain ⟨X, hX⟩ : ∃ X, pbkT R t = X := ⟨_, rfl⟩
        rw [hX] at pb2 pb3
        have tkX : X.take 24 = X := List.take_of_length_le (by omega)
        rcases lr.at_ with ⟨er, r0⟩ | ⟨br, cr, jr', er, b3, b4, gr'⟩
        · exfalso
          have : rbL R = [] := List.length_eq_zero_iff.1 r0
          rw [this] at pb3; cases pb3
        · have gr2 := hK1.fr br _ (by omega) gr'
          have d3 : (br = n1) = False := by simp; omega
          simp -implicitDefEqProofs only [lk_normal, eg, hil, gg1, gr1, et, lt3, tk3, lQ, hR, tkR, pb1, hX, pb2, tkX, d1, d2, PourBack_F, sPourBack_F, IsGarden_F, sIsGarden_F, CountFormsBefore_F, sCountFormsBefore_F, Pour_F, PoursOf_F, SourcesOf_F, sSourcesOf_F, RacksBefore_F, sRacksBefore_F, GardensBefore_F, sGardensBefore_F, BackTo_F, sBackTo_F, Wrap.ap, eqI_rack, eqI_src, Nat.add_assoc, add_self, self_add, add_add, List.getD_cons_zero, List.getD_cons_succ, ZB, Int.reduceToNat, Nat.reduceLT, Nat.reduceLeDiff, Int.reduceLE, Int.reduceLT, Nat.reduceEqDiff, Nat.reduceSub, SB, SV.known, packR, ne_eq, reduceCtorEq, Nat.reduceEqDiff, ↓reduceIte, if_true, if_false, eq_self, Nat.reduceAdd, Nat.reduceMul, Nat.reduceSub, forall_const, oneCellS, litOne, flat1, Kd.isSca, flat, TYB]
          refine ⟨by omega, by omega, ?_⟩
          have hKc : Kpt n H ((n1, .ints X 27) :: (n1, .ints (List.replicate 24 0) 27) :: H1) (n1 + 1) := (hK1.push).put (by omega)
          have hle2 : n ≤ n1 + 1 := hKc.le
          have ua := SV.wf_mono hle2 va wa
          have ur := SV.wf_mono hle2 vr wr
          have ug := SV.wf_mono hle2 vg wg
          have ut := SV.wf_mono hle2 vt wt
          obtain ⟨mr, hmr⟩ : ∃ mr, (rbL R).length = mr := ⟨_, rfl⟩
          rw [hmr] at er hfl hle
          refine loop_introN (fun k : Nat => [(49, .int k), (48, .bool (((rbL R).take k).any fun z => decide (z = X))), (47, .bool true), (46, .ptr n1 0), (45, .int i), (3, .ptr r 0), (4, .ptr q 0), (5, .ptr b 0), (6, .bool (pbkB R s)), (9, va), (10, .bool (rackB R)), (13, vr), (17, .bool (rackB R && decide (SrL R 144 = []))), (21, .int (cfF R)), (25, vg), (29, .ptr x 0), (30, .ptr y 0), (31, vt), (32, .bool (btoB A B))]) (fun _ => ((n1, .ints X 27) :: (n1, .ints (List.replicate 24 0) 27) :: H1)) (fun _ => n1 + 1) (fun k => k ≤ mr) (fun k => mr - k) ?_ ?_
          · exact ⟨0, Nat.zero_le _, Sub.same (by simp only [eg, ka, kr, kg, kt, ja, jr, jg, jt, SV.ren_id, LB, subS, subH, wfS, wfH, SV.ren, renL, SObj.ren, SV.wf, SObj.wf, wfL, SV.known, Nat.reduceEqDiff, ↓reduceIte, if_true, if_false, eq_self, Nat.reduceAdd, Nat.reduceLT, Nat.reduceLeDiff, implies_true, reduceCtorEq, forall_const]; try rfl) (by simp [subS, subH, wfS, wfH, SV.ren, renL, SObj.ren, SV.wf, SObj.wf, wfL, sget_cons, hget_cons, ua, ur, ug, ut] <;> omega) hKc.wf (by omega)⟩
          · intro k hk
            by_cases hkn : k < mr
            · have hkl : (k : Int) < mr := by omega
              have eY := flat_get l24 (i := k) (by omega) jr'
              have lY : ((rbL R).getD k []).length = 24 := l24 _ (getD_mem (i := k) (by omega))
              have tkY : ((rbL R).getD k []).take 24 = (rbL R).getD k [] := List.take_of_length_le (by omega)
              have lQ2 : k * 24 + 24 ≤ ((rbL R).flatten ++ jr').length := by rw [List.length_append, hfl]; omega
              have nx := any_take (rbL R) X (k := k) (by omega)
              cases hf : ((rbL R).take k).any fun z => decide (z = X) with
              | true =>
                rw [hf, Bool.true_or] at nx
                simp -implicitDefEqProofs only [lk_normal, er, hkl, gr2, d3, eY, lY, tkY, lQ2, pb2, tkX, hf, PourBack_F, sPourBack_F, IsGarden_F, sIsGarden_F, CountFormsBefore_F, sCountFormsBefore_F, Pour_F, PoursOf_F, SourcesOf_F, sSourcesOf_F, RacksBefore_F, sRacksBefore_F, GardensBefore_F, sGardensBefore_F, BackTo_F, sBackTo_F, Wrap.ap, eqI_rack, eqI_src, Nat.add_assoc, add_self, self_add, add_add, List.getD_cons_zero, List.getD_cons_succ, ZB, Int.reduceToNat, Nat.reduceLT, Nat.reduceLeDiff, Int.reduceLE, Int.reduceLT, Nat.reduceEqDiff, Nat.reduceSub, SB, SV.known, packR, ne_eq, reduceCtorEq, Nat.reduceEqDiff, ↓reduceIte, if_true, if_false, eq_self, Nat.reduceAdd, Nat.reduceMul, Nat.reduceSub, forall_const, oneCellS, litOne, flat1, Kd.isSca, flat, TYB]
                exact ⟨by unfold In64; omega, k + 1, by omega, by omega, Sub.same (by simp only [er, nx, ka, kr, kg, kt, ja, jr, jg, jt, SV.ren_id, LB, subS, subH, wfS, wfH, SV.ren, renL, SObj.ren, SV.wf, SObj.wf, wfL, SV.known, Nat.reduceEqDiff, ↓reduceIte, if_true, if_false, eq_self, Nat.reduceAdd, Nat.reduceLT, Nat.reduceLeDiff, implies_true, reduceCtorEq, forall_const]; try rfl) (by simp [subS, subH, wfS, wfH, SV.ren, renL, SObj.ren, SV.wf, SObj.wf, wfL, sget_cons, hget_cons, ua, ur, ug, ut] <;> omega) hKc.wf (by omega)⟩
              | false =>
                rw [hf, Bool.false_or] at nx
                simp -implicitDefEqProofs only [lk_normal, er, hkl, gr2, d3, eY, lY, tkY, lQ2, pb2, tkX, hf, PourBack_F, sPourBack_F, IsGarden_F, sIsGarden_F, CountFormsBefore_F, sCountFormsBefore_F, Pour_F, PoursOf_F, SourcesOf_F, sSourcesOf_F, RacksBefore_F, sRacksBefore_F, GardensBefore_F, sGardensBefore_F, BackTo_F, sBackTo_F, Wrap.ap, eqI_rack, eqI_src, Nat.add_assoc, add_self, self_add, add_add, List.getD_cons_zero, List.getD_cons_succ, ZB, Int.reduceToNat, Nat.reduceLT, Nat.reduceLeDiff, Int.reduceLE, Int.reduceLT, Nat.reduceEqDiff, Nat.reduceSub, SB, SV.known, packR, ne_eq, reduceCtorEq, Nat.reduceEqDiff, ↓reduceIte, if_true, if_false, eq_self, Nat.reduceAdd, Nat.reduceMul, Nat.reduceSub, forall_const, oneCellS, litOne, flat1, Kd.isSca, flat, TYB]
                exact ⟨by omega, by unfold In64; omega, k + 1, by omega, by omega, Sub.same (by simp only [er, nx, ka, kr, kg, kt, ja, jr, jg, jt, SV.ren_id, LB, subS, subH, wfS, wfH, SV.ren, renL, SObj.ren, SV.wf, SObj.wf, wfL, SV.known, Nat.reduceEqDiff, ↓reduceIte, if_true, if_false, eq_self, Nat.reduceAdd, Nat.reduceLT, Nat.reduceLeDiff, implies_true, reduceCtorEq, forall_const]; try rfl) (by simp [subS, subH, wfS, wfH, SV.ren, renL, SObj.ren, SV.wf, SObj.wf, wfL, sget_cons, hget_cons, ua, ur, ug, ut] <;> omega) hKc.wf (by omega)⟩
            · have hkl : ¬ (k : Int) < mr := by omega
              have tk : (rbL R).take k = rbL R := List.take_of_length_le (by omega)
              simp -implicitDefEqProofs only [lk_normal, er, hkl, tk, pb3, PourBack_F, sPourBack_F, IsGarden_F, sIsGarden_F, CountFormsBefore_F, sCountFormsBefore_F, Pour_F, PoursOf_F, SourcesOf_F, sSourcesOf_F, RacksBefore_F, sRacksBefore_F, GardensBefore_F, sGardensBefore_F, BackTo_F, sBackTo_F, Wrap.ap, eqI_rack, eqI_src, Nat.add_assoc, add_self, self_add, add_add, List.getD_cons_zero, List.getD_cons_succ, ZB, Int.reduceToNat, Nat.reduceLT, Nat.reduceLeDiff, Int.reduceLE, Int.reduceLT, Nat.reduceEqDiff, Nat.reduceSub, SB, SV.known, packR, ne_eq, reduceCtorEq, Nat.reduceEqDiff, ↓reduceIte, if_true, if_false, eq_self, Nat.reduceAdd, Nat.reduceMul, Nat.reduceSub, forall_const, oneCellS, litOne, flat1, Kd.isSca, flat, TYB]
              exact ⟨by unfold In64; omega, (i + 1, _, n1 + 1), ⟨by show i + 1 ≤ m; omega, hKc⟩, by show m - (i + 1) < m - i; omega, Sub.same (by simp only [eg, er, ka, kr, kg, kt, ja, jr, jg, jt, SV.ren_id, LB, subS, subH, wfS, wfH, SV.ren, renL, SObj.ren, SV.wf, SObj.wf, wfL, SV.known, Nat.reduceEqDiff, ↓reduceIte, if_true, if_false, eq_self, Nat.reduceAdd, Nat.reduceLT, Nat.reduceLeDiff, implies_true, reduceCtorEq, forall_const]; try rfl) (by simp [subS, subH, wfS, wfH, SV.ren, renL, SObj.ren, SV.wf, SObj.wf, wfL, sget_cons, hget_cons, ua, ur, ug, ut] <;> omega) hKc.wf (by show 1 ≤ n1 + 1; omega)⟩
      · have hil : ¬ (i : Int) < m := by omega
        simp -implicitDefEqProofs only [lk_normal, eg, hil, PourBack_F, sPourBack_F, IsGarden_F, sIsGarden_F, CountFormsBefore_F, sCountFormsBefore_F, Pour_F, PoursOf_F, SourcesOf_F, sSourcesOf_F, RacksBefore_F, sRacksBefore_F, GardensBefore_F, sGardensBefore_F, BackTo_F, sBackTo_F, Wrap.ap, eqI_rack, eqI_src, Nat.add_assoc, add_self, self_add, add_add, List.getD_cons_zero, List.getD_cons_succ, ZB, Int.reduceToNat, Nat.reduceLT, Nat.reduceLeDiff, Int.reduceLE, Int.reduceLT, Nat.reduceEqDiff, Nat.reduceSub, SB, SV.known, packR, ne_eq, reduceCtorEq, Nat.reduceEqDiff, ↓reduceIte, if_true, if_false, eq_self, Nat.reduceAdd, Nat.reduceMul, Nat.reduceSub, forall_const, oneCellS, litOne, flat1, Kd.isSca, flat, TYB]
        exact next _ _ _ ((hE0.up (fun _ _ => rfl) hK1).re rfl rfl rfl rfl eg.symm rfl rfl rfl rfl rfl rfl rfl rfl rfl)
set_option maxHeartbeats 2000000 in
theorem so_b22 (S : Env) (H : Heap) (n : Nat) (R s A B : List Int) (r q b x y : Nat) (va vr vg vt : SV) (hE : SoS S H n R s A B r q b x y va vr vg vt) (hR : R.length = 24) (hrk : rackB R = true) : codeVC (⟨Tryz.prog, tys, [(6, vBig_F), (23, PourBack_F), (24, sPourBack_F), (29, IsGarden_F), (30, sIsGarden_F), (31, CountFormsBefore_F), (32, sCountFormsBefore_F), (38, vSources_F), (39, vRacks_F), (40, Pour_F)], [(22, DrawPourBack_F), (25, SourcesOf_F), (26, sSourcesOf_F), (27, RacksBefore_F), (28, sRacksBefore_F), (33, GardensBefore_F), (34, sGardensBefore_F), (11, vCut_F), (35, DrawBackTo_F), (36, BackTo_F), (37, sBackTo_F), (41, PoursOf_F)], true, true, 1, [], []⟩ : Cx) 1 (cdN 22 (Tryz.f4.body.getD .skip)) S H n soK := by
  have hE0 := hE
  obtain ⟨s3, s4, s5, s6, s9, s10, s13, s17, s21, s25, s29, s30, s31, s32, hr, hq, hb, hx, hy, la, lr, lg, lt_, hlt, hwf0, h1n⟩ := hE
  have ka := la.kn
  have kr := lr.kn
  have kg := lg.kn
  have kt := lt_.kn
  have ja := ka
  have jr := kr
  have jg := kg
  have jt := kt
  simp only [SV.known] at ja jr jg jt
  have wa := la.wfv (Nat.le_refl n)
  have wr := lr.wfv (Nat.le_refl n)
  have wg := lg.wfv (Nat.le_refl n)
  have wt := lt_.wfv (Nat.le_refl n)
  have tkR : R.take 24 = R := List.take_of_length_le (by omega)
  rw [cd_cut (show cdN 22 (Tryz.f4.body.getD .skip) = .seq (cd1 (cdN 22 (Tryz.f4.body.getD .skip))) (cdN 23 (Tryz.f4.body.getD .skip)) from rfl)]
  have next := fun S' H' n' (h : SoS S' H' n' R s A B r q b x y va vr vg vt) => so_b23 S' H' n' R s A B r q b x y va vr vg vt h hR hrk
  obtain ⟨cn, en⟩ : ∃ c, c = cdN 23 (Tryz.f4.body.getD .skip) := ⟨_, rfl⟩
  rw [← en] at next ⊢
  simp only [cdN, cd1, cd2, Tryz.f4, Option.getD_some]
  have eS : soF R = SrL R 144 := by unfold soF; rw [if_pos hrk]
  have eB : rbL R = befL R := by unfold rbL; rw [if_pos hrk]
  have eC : cfF R = ((nwF [] (fms (befL R))).length : Nat) := by unfold cfF; rw [if_pos hrk]
  have hc := cf_le hR
  have hb1 := befL_card hR
  have hn := befL_nil hR
  have s17' := s17
  rw [hrk, Bool.true_and] at s17'
  have lna := la.len
  have lnr := lr.len
  rw [eS] at lna
  rw [eB] at lnr
  by_cases hG : SrL R 144 = []
  · have hB := hn.2 hG
    have hf : (nwF [] (fms (befL R))).length = 0 := by rw [hB] at hc ⊢; simpa using hc
    rw [hf] at eC
    have hG' : (SrL R 144 = []) = True := eq_true hG
    have l1 : (SrL R 144).length / 3 = 0 := by rw [hG]; rfl
    have l2 : (befL R).length = 0 := by rw [hB]; rfl
    rw [l1] at lna
    rw [l2] at lnr
    have c00 : ((0 : Nat) : Int) = 0 := rfl
    simp -implicitDefEqProofs only [s9, s13, s17', s21, lna, lnr, ka, kr, ja, jr, hG', eC, c00, PourBack_F, sPourBack_F, IsGarden_F, sIsGarden_F, CountFormsBefore_F, sCountFormsBefore_F, Pour_F, PoursOf_F, SourcesOf_F, sSourcesOf_F, RacksBefore_F, sRacksBefore_F, GardensBefore_F, sGardensBefore_F, BackTo_F, sBackTo_F, Wrap.ap, eqI_rack, eqI_src, Nat.add_assoc, add_self, self_add, add_add, List.getD_cons_zero, List.getD_cons_succ, ZB, Int.reduceToNat, Nat.reduceLT, Nat.reduceLeDiff, Int.reduceLE, Int.reduceLT, Nat.reduceEqDiff, Nat.reduceSub, SB, SV.known, packR, ne_eq, reduceCtorEq, Nat.reduceEqDiff, ↓reduceIte, if_true, if_false, eq_self, Nat.reduceAdd, Nat.reduceMul, Nat.reduceSub, forall_const, oneCellS, litOne, flat1, Kd.isSca, flat, TYB]
    exact next _ _ _ (hE0.up (by (repeat (first | refine so_up ?_ (by decide) | exact fun _ _ => rfl))) (Kpt.refl hwf0))
  · have hB : ¬ befL R = [] := fun h => hG (hn.1 h)
    have hG' : (SrL R 144 = []) = False := eq_false hG
    obtain ⟨k, hk1, hk2⟩ := SrL_three R 144
    have hp1 : 0 < (SrL R 144).length := List.length_pos_iff.2 hG
    have hp2 : 0 < (befL R).length := List.length_pos_iff.2 hB
    obtain ⟨m, hm⟩ : ∃ m, (SrL R 144).length / 3 = m := ⟨_, rfl⟩
    obtain ⟨mr, hmr⟩ : ∃ m, (befL R).length = m := ⟨_, rfl⟩
    rw [hm] at lna hb1
    rw [hmr] at lnr hb1 hc hp2
    have f1 : ((m : Int) = 0) = False := eq_false (by omega)
    have f2 : ((m : Int) < (mr : Int)) = False := eq_false (by omega)
    have f3 : ((mr : Int) < cfF R) = False := eq_false (by rw [eC]; omega)
    have f4 : ((mr : Int) = 0) = False := eq_false (by omega)
    simp -implicitDefEqProofs only [s9, s13, s17', s21, lna, lnr, ka, kr, ja, jr, hG', f1, f2, f3, f4, PourBack_F, sPourBack_F, IsGarden_F, sIsGarden_F, CountFormsBefore_F, sCountFormsBefore_F, Pour_F, PoursOf_F, SourcesOf_F, sSourcesOf_F, RacksBefore_F, sRacksBefore_F, GardensBefore_F, sGardensBefore_F, BackTo_F, sBackTo_F, Wrap.ap, eqI_rack, eqI_src, Nat.add_assoc, add_self, self_add, add_add, List.getD_cons_zero, List.getD_cons_succ, ZB, Int.reduceToNat, Nat.reduceLT, Nat.reduceLeDiff, Int.reduceLE, Int.reduceLT, Nat.reduceEqDiff, Nat.reduceSub, SB, SV.known, packR, ne_eq, reduceCtorEq, Nat.reduceEqDiff, ↓reduceIte, if_true, if_false, eq_self, Nat.reduceAdd, Nat.reduceMul, Nat.reduceSub, forall_const, oneCellS, litOne, flat1, Kd.isSca, flat, TYB]
    exact next _ _ _ (hE0.up (by (repeat (first | refine so_up ?_ (by decide) | exact fun _ _ => rfl))) (Kpt.refl hwf0))
theorem so_b21 (S : Env) (H : Heap) (n : Nat) (R s A B : List Int) (r q b x y : Nat) (va vr vg vt : SV) (hE : SoS S H n R s A B r q b x y va vr vg vt) (hR : R.length = 24) : codeVC (⟨Tryz.prog, tys, [(6, vBig_F), (23, PourBack_F), (24, sPourBack_F), (29, IsGarden_F), (30, sIsGarden_F), (31, CountFormsBefore_F), (32, sCountFormsBefore_F), (38, vSources_F), (39, vRacks_F), (40, Pour_F)], [(22, DrawPourBack_F), (25, SourcesOf_F), (26, sSourcesOf_F), (27, RacksBefore_F), (28, sRacksBefore_F), (33, GardensBefore_F), (34, sGardensBefore_F), (11, vCut_F), (35, DrawBackTo_F), (36, BackTo_F), (37, sBackTo_F), (41, PoursOf_F)], true, true, 1, [], []⟩ : Cx) 1 (cdN 21 (Tryz.f4.body.getD .skip)) S H n soK := by
  cases hrk : rackB R
  · have s10 := hE.s10
    simp only [cdN, cd2, Tryz.f4, Option.getD_some, soK]
    simp -implicitDefEqProofs only [s10, hrk, PourBack_F, sPourBack_F, IsGarden_F, sIsGarden_F, CountFormsBefore_F, sCountFormsBefore_F, Pour_F, PoursOf_F, SourcesOf_F, sSourcesOf_F, RacksBefore_F, sRacksBefore_F, GardensBefore_F, sGardensBefore_F, BackTo_F, sBackTo_F, Wrap.ap, eqI_rack, eqI_src, Nat.add_assoc, add_self, self_add, add_add, List.getD_cons_zero, List.getD_cons_succ, ZB, Int.reduceToNat, Nat.reduceLT, Nat.reduceLeDiff, Int.reduceLE, Int.reduceLT, Nat.reduceEqDiff, Nat.reduceSub, SB, SV.known, packR, ne_eq, reduceCtorEq, Nat.reduceEqDiff, ↓reduceIte, if_true, if_false, eq_self, Nat.reduceAdd, Nat.reduceMul, Nat.reduceSub, forall_const, oneCellS, litOne, flat1, Kd.isSca, flat, TYB]
  · have s10 := hE.s10
    have hwf0 := hE.wf
    rw [cd_cut (show cdN 21 (Tryz.f4.body.getD .skip) = .seq (cd1 (cdN 21 (Tryz.f4.body.getD .skip))) (cdN 22 (Tryz.f4.body.getD .skip)) from rfl)]
    have next := fun S' H' n' (h : SoS S' H' n' R s A B r q b x y va vr vg vt) => so_b22 S' H' n' R s A B r q b x y va vr vg vt h hR hrk
    obtain ⟨cn, en⟩ : ∃ c, c = cdN 22 (Tryz.f4.body.getD .skip) := ⟨_, rfl⟩
    rw [← en] at next ⊢
    simp only [cdN, cd1, cd2, Tryz.f4, Option.getD_some]
    simp -implicitDefEqProofs only [s10, hrk, PourBack_F, sPourBack_F, IsGarden_F, sIsGarden_F, CountFormsBefore_F, sCountFormsBefore_F, Pour_F, PoursOf_F, SourcesOf_F, sSourcesOf_F, RacksBefore_F, sRacksBefore_F, GardensBefore_F, sGardensBefore_F, BackTo_F, sBackTo_F, Wrap.ap, eqI_rack, eqI_src, Nat.add_assoc, add_self, self_add, add_add, List.getD_cons_zero, List.getD_cons_succ, ZB, Int.reduceToNat, Nat.reduceLT, Nat.reduceLeDiff, Int.reduceLE, Int.reduceLT, Nat.reduceEqDiff, Nat.reduceSub, SB, SV.known, packR, ne_eq, reduceCtorEq, Nat.reduceEqDiff, ↓reduceIte, if_true, if_false, eq_self, Nat.reduceAdd, Nat.reduceMul, Nat.reduceSub, forall_const, oneCellS, litOne, flat1, Kd.isSca, flat, TYB]
    exact next _ _ _ (hE.up (by (repeat (first | refine so_up ?_ (by decide) | exact fun _ _ => rfl))) (Kpt.refl hwf0))
set_option maxHeartbeats 2000000 in
theorem so_b20 (S : Env) (H : Heap) (n : Nat) (R s A B : List Int) (r q b x y : Nat) (va vr vg vt : SV) (hE : SoS S H n R s A B r q b x y va vr vg vt) (hR : R.length = 24) (hA : A.length = 24) (hB : B.length = 24) : codeVC (⟨Tryz.prog, tys, [(6, vBig_F), (23, PourBack_F), (24, sPourBack_F), (29, IsGarden_F), (30, sIsGarden_F), (31, CountFormsBefore_F), (32, sCountFormsBefore_F), (38, vSources_F), (39, vRacks_F), (40, Pour_F)], [(22, DrawPourBack_F), (25, SourcesOf_F), (26, sSourcesOf_F), (27, RacksBefore_F), (28, sRacksBefore_F), (33, GardensBefore_F), (34, sGardensBefore_F), (11, vCut_F), (35, DrawBackTo_F), (36, BackTo_F), (37, sBackTo_F), (41, PoursOf_F)], true, true, 1, [], []⟩ : Cx) 1 (cdN 20 (Tryz.f4.body.getD .skip)) S H n soK := by
  have hE0 := hE
  obtain ⟨s3, s4, s5, s6, s9, s10, s13, s17, s21, s25, s29, s30, s31, s32, hr, hq, hb, hx, hy, la, lr, lg, lt_, hlt, hwf0, h1n⟩ := hE
  have ka := la.kn
  have kr := lr.kn
  have kg := lg.kn
  have kt := lt_.kn
  have ja := ka
  have jr := kr
  have jg := kg
  have jt := kt
  simp only [SV.known] at ja jr jg jt
  have wa := la.wfv (Nat.le_refl n)
  have wr := lr.wfv (Nat.le_refl n)
  have wg := lg.wfv (Nat.le_refl n)
  have wt := lt_.wfv (Nat.le_refl n)
  have tkR : R.take 24 = R := List.take_of_length_le (by omega)
  rw [cd_cut (show cdN 20 (Tryz.f4.body.getD .skip) = .seq (cd1 (cdN 20 (Tryz.f4.body.getD .skip))) (cdN 21 (Tryz.f4.body.getD .skip)) from rfl)]
  have next := fun S' H' n' (h : SoS S' H' n' R s A B r q b x y va vr vg vt) => so_b21 S' H' n' R s A B r q b x y va vr vg vt h hR
  obtain ⟨cn, en⟩ : ∃ c, c = cdN 21 (Tryz.f4.body.getD .skip) := ⟨_, rfl⟩
  rw [← en] at next ⊢
  simp only [cdN, cd1, cd2, Tryz.f4, Option.getD_some]
  have tkA : A.take 24 = A := List.take_of_length_le (by omega)
  have tkB : B.take 24 = B := List.take_of_length_le (by omega)
  have lnt := lt_.len
  cases h4 : btoB A B
  · simp -implicitDefEqProofs only [s32, h4, PourBack_F, sPourBack_F, IsGarden_F, sIsGarden_F, CountFormsBefore_F, sCountFormsBefore_F, Pour_F, PoursOf_F, SourcesOf_F, sSourcesOf_F, RacksBefore_F, sRacksBefore_F, GardensBefore_F, sGardensBefore_F, BackTo_F, sBackTo_F, Wrap.ap, eqI_rack, eqI_src, Nat.add_assoc, add_self, self_add, add_add, List.getD_cons_zero, List.getD_cons_succ, ZB, Int.reduceToNat, Nat.reduceLT, Nat.reduceLeDiff, Int.reduceLE, Int.reduceLT, Nat.reduceEqDiff, Nat.reduceSub, SB, SV.known, packR, ne_eq, reduceCtorEq, Nat.reduceEqDiff, ↓reduceIte, if_true, if_false, eq_self, Nat.reduceAdd, Nat.reduceMul, Nat.reduceSub, forall_const, oneCellS, litOne, flat1, Kd.isSca, flat, TYB]
    exact next _ _ _ (hE0.up (by (repeat (first | refine so_up ?_ (by decide) | exact fun _ _ => rfl))) (Kpt.refl hwf0))
  · obtain ⟨np, hnp, hnp36⟩ := PL_even A 36
    have ehp : (PL A 36).length / 2 = np := by omega
    have hra : rackB A = true := by unfold btoB at h4; rw [Bool.and_eq_true] at h4; exact h4.1
    have eP : poF A = PL A 36 := by unfold poF; rw [if_pos hra]
    have hfin := so_to hA hB h4 hnp
    simp -implicitDefEqProofs only [s29, s32, h4, hx, hA, tkA, hra, eP, ehp, PourBack_F, sPourBack_F, IsGarden_F, sIsGarden_F, CountFormsBefore_F, sCountFormsBefore_F, Pour_F, PoursOf_F, SourcesOf_F, sSourcesOf_F, RacksBefore_F, sRacksBefore_F, GardensBefore_F, sGardensBefore_F, BackTo_F, sBackTo_F, Wrap.ap, eqI_rack, eqI_src, Nat.add_assoc, add_self, self_add, add_add, List.getD_cons_zero, List.getD_cons_succ, ZB, Int.reduceToNat, Nat.reduceLT, Nat.reduceLeDiff, Int.reduceLE, Int.reduceLT, Nat.reduceEqDiff, Nat.reduceSub, SB, SV.known, packR, ne_eq, reduceCtorEq, Nat.reduceEqDiff, ↓reduceIte, if_true, if_false, eq_self, Nat.reduceAdd, Nat.reduceMul, Nat.reduceSub, forall_const, oneCellS, litOne, flat1, Kd.isSca, flat, TYB]
    refine freshK_of (fun h0 => ?_) fun cp jp hjp => ?_
    · have n0 : np = 0 := by rw [h0] at hnp; simp at hnp; omega
      subst n0
      have hz : decide (0 < (btoF A B).length / 3) = false := by rw [← hfin]; rfl
      have hz' : ((0 : Int) < (((btoF A B).length / 3 : Nat) : Int)) = False := by simp at hz; simp; omega
      simp -implicitDefEqProofs only [s29, s32, h4, hx, hA, tkA, hra, PourBack_F, sPourBack_F, IsGarden_F, sIsGarden_F, CountFormsBefore_F, sCountFormsBefore_F, Pour_F, PoursOf_F, SourcesOf_F, sSourcesOf_F, RacksBefore_F, sRacksBefore_F, GardensBefore_F, sGardensBefore_F, BackTo_F, sBackTo_F, Wrap.ap, eqI_rack, eqI_src, Nat.add_assoc, add_self, self_add, add_add, List.getD_cons_zero, List.getD_cons_succ, ZB, Int.reduceToNat, Nat.reduceLT, Nat.reduceLeDiff, Int.reduceLE, Int.reduceLT, Nat.reduceEqDiff, Nat.reduceSub, SB, SV.known, packR, ne_eq, reduceCtorEq, Nat.reduceEqDiff, ↓reduceIte, if_true, if_false, eq_self, Nat.reduceAdd, Nat.reduceMul, Nat.reduceSub, forall_const, oneCellS, litOne, flat1, Kd.isSca, flat, TYB]
      refine loop_introN (fun _ : Unit => [(41, .int 0), (40, .bool false), (39, .bool true), (38, .nils), (3, .ptr r 0), (4, .ptr q 0), (5, .ptr b 0), (6, .bool (pbkB R s)), (9, va), (10, .bool (rackB R)), (13, vr), (17, .bool (rackB R && decide (SrL R 144 = []))), (21, .int (cfF R)), (25, vg), (29, .ptr x 0), (30, .ptr y 0), (31, vt), (32, .bool (btoB A B))]) (fun _ => H) (fun _ => n) (fun _ => True) (fun _ => 0) ?_ ?_
      · exact ⟨(), trivial, Sub.same (by simp only [s3, s4, s5, s6, s9, s10, s13, s17, s21, s25, s29, s30, s31, s32, ka, kr, kg, kt, ja, jr, jg, jt, SV.ren_id, LB, subS, subH, wfS, wfH, SV.ren, renL, SObj.ren, SV.wf, SObj.wf, wfL, SV.known, Nat.reduceEqDiff, ↓reduceIte, if_true, if_false, eq_self, Nat.reduceAdd, Nat.reduceLT, Nat.reduceLeDiff, implies_true, reduceCtorEq, forall_const]; try rfl) (by simp [subS, subH, wfS, wfH, SV.ren, renL, SObj.ren, SV.wf, SObj.wf, wfL, sget_cons, hget_cons, wa, wr, wg, wt] <;> omega) hwf0 h1n⟩
      · intro _ _
        simp -implicitDefEqProofs only [lk_normal, kt, jt, lnt, hz', PourBack_F, sPourBack_F, IsGarden_F, sIsGarden_F, CountFormsBefore_F, sCountFormsBefore_F, Pour_F, PoursOf_F, SourcesOf_F, sSourcesOf_F, RacksBefore_F, sRacksBefore_F, GardensBefore_F, sGardensBefore_F, BackTo_F, sBackTo_F, Wrap.ap, eqI_rack, eqI_src, Nat.add_assoc, add_self, self_add, add_add, List.getD_cons_zero, List.getD_cons_succ, ZB, Int.reduceToNat, Nat.reduceLT, Nat.reduceLeDiff, Int.reduceLE, Int.reduceLT, Nat.reduceEqDiff, Nat.reduceSub, SB, SV.known, packR, ne_eq, reduceCtorEq, Nat.reduceEqDiff, ↓reduceIte, if_true, if_false, eq_self, Nat.reduceAdd, Nat.reduceMul, Nat.reduceSub, forall_const, oneCellS, litOne, flat1, Kd.isSca, flat, TYB]
        exact next _ _ _ (hE0.re rfl rfl rfl rfl rfl rfl rfl rfl rfl rfl rfl rfl rfl rfl)
    · simp -implicitDefEqProofs only [s29, s32, h4, hx, hA, tkA, hra, PourBack_F, sPourBack_F, IsGarden_F, sIsGarden_F, CountFormsBefore_F, sCountFormsBefore_F, Pour_F, PoursOf_F, SourcesOf_F, sSourcesOf_F, RacksBefore_F, sRacksBefore_F, GardensBefore_F, sGardensBefore_F, BackTo_F, sBackTo_F, Wrap.ap, eqI_rack, eqI_src, Nat.add_assoc, add_self, self_add, add_add, List.getD_cons_zero, List.getD_cons_succ, ZB, Int.reduceToNat, Nat.reduceLT, Nat.reduceLeDiff, Int.reduceLE, Int.reduceLT, Nat.reduceEqDiff, Nat.reduceSub, SB, SV.known, packR, ne_eq, reduceCtorEq, Nat.reduceEqDiff, ↓reduceIte, if_true, if_false, eq_self, Nat.reduceAdd, Nat.reduceMul, Nat.reduceSub, forall_const, oneCellS, litOne, flat1, Kd.isSca, flat, TYB]
      have hK0 : Kpt n H ((n, .ints (PL A 36 ++ jp) 65) :: H) (n + 1) := (Kpt.refl hwf0).push
      refine loop_introN (fun s' : Nat × Heap × Nat => [(41, .int s'.1), (40, .bool (anyP A B s'.1)), (39, .bool true), (38, .slice n 0 np cp), (3, .ptr r 0), (4, .ptr q 0), (5, .ptr b 0), (6, .bool (pbkB R s)), (9, va), (10, .bool (rackB R)), (13, vr), (17, .bool (rackB R && decide (SrL R 144 = []))), (21, .int (cfF R)), (25, vg), (29, .ptr x 0), (30, .ptr y 0), (31, vt), (32, .bool (btoB A B))]) (fun s' => s'.2.1) (fun s' => s'.2.2) (fun s' => s'.1 ≤ np ∧ Kpt (n + 1) ((n, .ints (PL A 36 ++ jp) 65) :: H) s'.2.1 s'.2.2) (fun s' => np - s'.1) ?_ ?_
      · exact ⟨(0, _, n + 1), ⟨Nat.zero_le _, Kpt.refl hK0.wf⟩, Sub.same (by simp only [s3, s4, s5, s6, s9, s10, s13, s17, s21, s25, s29, s30, s31, s32, ka, kr, kg, kt, ja, jr, jg, jt, SV.ren_id, LB, subS, subH, wfS, wfH, SV.ren, renL, SObj.ren, SV.wf, SObj.wf, wfL, SV.known, Nat.reduceEqDiff, ↓reduceIte, if_true, if_false, eq_self, Nat.reduceAdd, Nat.reduceLT, Nat.reduceLeDiff, implies_true, reduceCtorEq, forall_const]; try rfl) (by simp [subS, subH, wfS, wfH, SV.ren, renL, SObj.ren, SV.wf, SObj.wf, wfL, sget_cons, hget_cons, SV.wf_mono (Nat.le_succ n) va wa, SV.wf_mono (Nat.le_succ n) vr wr, SV.wf_mono (Nat.le_succ n) vg wg, SV.wf_mono (Nat.le_succ n) vt wt] <;> omega) hK0.wf (by show 1 ≤ n + 1; omega)⟩
      · rintro ⟨i, H1, n1⟩ ⟨hi, hK1⟩
        simp only at hi hK1
        have hle1 := hK1.le
        have ua := SV.wf_mono (show n ≤ n1 + 1 by omega) va wa
        have ur := SV.wf_mono (show n ≤ n1 + 1 by omega) vr wr
        have ug := SV.wf_mono (show n ≤ n1 + 1 by omega) vg wg
        have ut := SV.wf_mono (show n ≤ n1 + 1 by omega) vt wt
        have gx := hK1.fr x _ (by omega) (show hget _ x = some (.ints A 27) by rw [hget_cons, if_neg (by omega)]; exact hx)
        have gy := hK1.fr y _ (by omega) (show hget _ y = some (.ints B 27) by rw [hget_cons, if_neg (by omega)]; exact hy)
        have gp := hK1.fr n _ (by omega) (show hget _ n = some (.ints (PL A 36 ++ jp) 65) by simp [hget_cons])
        have lenP : (PL A 36 ++ jp).length = cp * 2 := by rw [List.length_append]; omega
        by_cases hin : i < np
        · have hil : (i : Int) < np := by omega
          obtain ⟨a, b', ha, hb', hc, ga, gb, lN, iN⟩ := pl_pair hA hra (q := i) (by omega)
          have eP0 : (PL A 36 ++ jp).getD (i * 2) 0 = (a : Int) := by rw [getD_app _ _ _ (by omega), ga]
          have eP1 : (PL A 36 ++ jp).getD (i * 2 + 1) 0 = (b' : Int) := by rw [getD_app _ _ _ (by omega), gb]
          obtain ⟨p1, p2, p3, p4, p5⟩ := so_pb hA hra ha hb' hc
          have nx := anyP_succ A B i
          rw [ga, gb] at nx
          have tB : toB A B a b' = decide (pourF A a b' = B) := by unfold toB; simp only [Int.toNat_natCast]
          rw [tB] at nx
          have tkN : (pourF A a b').take 24 = pourF A a b' := List.take_of_length_le (by omega)
          have d1 : (x = n1) = False := by simp; omega
          have d2 : (y = n1) = False := by simp; omega
          have d3 : (n = n1) = False := by simp; omega
          have hKn : Kpt (n + 1) ((n, .ints (PL A 36 ++ jp) 65) :: H) ((n1, .ints (pourF A a b') 27) :: (n1, .ints (List.replicate 24 0) 27) :: H1) (n1 + 1) := (hK1.push).put (by omega)
          cases hf : anyP A B i with
          | true =>
            rw [hf, Bool.true_or] at nx
            simp -implicitDefEqProofs only [lk_normal, hil, hf, eP0, eP1, lenP, gx, gy, gp, d1, d2, d3, hA, tkA, hB, tkB, p1, p2, p3, lN, tkN, PourBack_F, sPourBack_F, IsGarden_F, sIsGarden_F, CountFormsBefore_F, sCountFormsBefore_F, Pour_F, PoursOf_F, SourcesOf_F, sSourcesOf_F, RacksBefore_F, sRacksBefore_F, GardensBefore_F, sGardensBefore_F, BackTo_F, sBackTo_F, Wrap.ap, eqI_rack, eqI_src, Nat.add_assoc, add_self, self_add, add_add, List.getD_cons_zero, List.getD_cons_succ, ZB, Int.reduceToNat, Nat.reduceLT, Nat.reduceLeDiff, Int.reduceLE, Int.reduceLT, Nat.reduceEqDiff, Nat.reduceSub, SB, SV.known, packR, ne_eq, reduceCtorEq, Nat.reduceEqDiff, ↓reduceIte, if_true, if_false, eq_self, Nat.reduceAdd, Nat.reduceMul, Nat.reduceSub, forall_const, oneCellS, litOne, flat1, Kd.isSca, flat, TYB]
            exact ⟨by omega, by omega, by omega, by omega, by omega, by unfold In64; omega, (i + 1, _, n1 + 1), ⟨by show i + 1 ≤ np; omega, hKn⟩, by show np - (i + 1) < np - i; omega, Sub.same (by simp only [nx, ka, kr, kg, kt, ja, jr, jg, jt, SV.ren_id, LB, subS, subH, wfS, wfH, SV.ren, renL, SObj.ren, SV.wf, SObj.wf, wfL, SV.known, Nat.reduceEqDiff, ↓reduceIte, if_true, if_false, eq_self, Nat.reduceAdd, Nat.reduceLT, Nat.reduceLeDiff, implies_true, reduceCtorEq, forall_const]; try rfl) (by simp [subS, subH, wfS, wfH, SV.ren, renL, SObj.ren, SV.wf, SObj.wf, wfL, sget_cons, hget_cons, ua, ur, ug, ut] <;> omega) hKn.wf (by show 1 ≤ n1 + 1; omega)⟩
          | false =>
            rw [hf, Bool.false_or] at nx
            simp -implicitDefEqProofs only [lk_normal, hil, hf, eP0, eP1, lenP, gx, gy, gp, d1, d2, d3, hA, tkA, hB, tkB, p1, p2, p3, lN, tkN, PourBack_F, sPourBack_F, IsGarden_F, sIsGarden_F, CountFormsBefore_F, sCountFormsBefore_F, Pour_F, PoursOf_F, SourcesOf_F, sSourcesOf_F, RacksBefore_F, sRacksBefore_F, GardensBefore_F, sGardensBefore_F, BackTo_F, sBackTo_F, Wrap.ap, eqI_rack, eqI_src, Nat.add_assoc, add_self, self_add, add_add, List.getD_cons_zero, List.getD_cons_succ, ZB, Int.reduceToNat, Nat.reduceLT, Nat.reduceLeDiff, Int.reduceLE, Int.reduceLT, Nat.reduceEqDiff, Nat.reduceSub, SB, SV.known, packR, ne_eq, reduceCtorEq, Nat.reduceEqDiff, ↓reduceIte, if_true, if_false, eq_self, Nat.reduceAdd, Nat.reduceMul, Nat.reduceSub, forall_const, oneCellS, litOne, flat1, Kd.isSca, flat, TYB]
            exact ⟨by omega, by omega, by omega, by omega, by omega, by unfold In64; omega, (i + 1, _, n1 + 1), ⟨by show i + 1 ≤ np; omega, hKn⟩, by show np - (i + 1) < np - i; omega, Sub.same (by simp only [nx, ka, kr, kg, kt, ja, jr, jg, jt, SV.ren_id, LB, subS, subH, wfS, wfH, SV.ren, renL, SObj.ren, SV.wf, SObj.wf, wfL, SV.known, Nat.reduceEqDiff, ↓reduceIte, if_true, if_false, eq_self, Nat.reduceAdd, Nat.reduceLT, Nat.reduceLeDiff, implies_true, reduceCtorEq, forall_const]; try rfl) (by simp [subS, subH, wfS, wfH, SV.ren, renL, SObj.ren, SV.wf, SObj.wf, wfL, sget_cons, hget_cons, ua, ur, ug, ut] <;> omega) hKn.wf (by show 1 ≤ n1 + 1; omega)⟩
        · have hil : ¬ (i : Int) < np := by omega
          obtain rfl : i = np := by omega
          have hz : ((0 : Int) < (((btoF A B).length / 3 : Nat) : Int)) = (anyP A B i = true) := by rw [hfin]; simp; omega
          cases hf : anyP A B i with
          | true =>
            rw [hf] at hz
            simp -implicitDefEqProofs only [lk_normal, hil, hf, kt, jt, lnt, hz, PourBack_F, sPourBack_F, IsGarden_F, sIsGarden_F, CountFormsBefore_F, sCountFormsBefore_F, Pour_F, PoursOf_F, SourcesOf_F, sSourcesOf_F, RacksBefore_F, sRacksBefore_F, GardensBefore_F, sGardensBefore_F, BackTo_F, sBackTo_F, Wrap.ap, eqI_rack, eqI_src, Nat.add_assoc, add_self, self_add, add_add, List.getD_cons_zero, List.getD_cons_succ, ZB, Int.reduceToNat, Nat.reduceLT, Nat.reduceLeDiff, Int.reduceLE, Int.reduceLT, Nat.reduceEqDiff, Nat.reduceSub, SB, SV.known, packR, ne_eq, reduceCtorEq, Nat.reduceEqDiff, ↓reduceIte, if_true, if_false, eq_self, Nat.reduceAdd, Nat.reduceMul, Nat.reduceSub, forall_const, oneCellS, litOne, flat1, Kd.isSca, flat, TYB]
            exact next _ _ _ ((hE0.up (fun _ _ => rfl) (hK0.trans hK1)).re rfl rfl rfl rfl rfl rfl rfl rfl rfl rfl rfl rfl rfl rfl)
          | false =>
            rw [hf] at hz
            simp -implicitDefEqProofs only [lk_normal, hil, hf, kt, jt, lnt, hz, PourBack_F, sPourBack_F, IsGarden_F, sIsGarden_F, CountFormsBefore_F, sCountFormsBefore_F, Pour_F, PoursOf_F, SourcesOf_F, sSourcesOf_F, RacksBefore_F, sRacksBefore_F, GardensBefore_F, sGardensBefore_F, BackTo_F, sBackTo_F, Wrap.ap, eqI_rack, eqI_src, Nat.add_assoc, add_self, self_add, add_add, List.getD_cons_zero, List.getD_cons_succ, ZB, Int.reduceToNat, Nat.reduceLT, Nat.reduceLeDiff, Int.reduceLE, Int.reduceLT, Nat.reduceEqDiff, Nat.reduceSub, SB, SV.known, packR, ne_eq, reduceCtorEq, Nat.reduceEqDiff, ↓reduceIte, if_true, if_false, eq_self, Nat.reduceAdd, Nat.reduceMul, Nat.reduceSub, forall_const, oneCellS, litOne, flat1, Kd.isSca, flat, TYB]
            exact next _ _ _ ((hE0.up (fun _ _ => rfl) (hK0.trans hK1)).re rfl rfl rfl rfl rfl rfl rfl rfl rfl rfl rfl rfl rfl rfl)
set_option maxHeartbeats 2000000 in
theorem so_b19 (S : Env) (H : Heap) (n : Nat) (R s A B : List Int) (r q b x y : Nat) (va vr vg vt : SV) (hE : SoS S H n R s A B r q b x y va vr vg vt) (hR : R.length = 24) (hs3 : s.length = 3) (hsi : ∀ z ∈ s, In64 z) (hA : A.length = 24) (hB : B.length = 24) : codeVC (⟨Tryz.prog, tys, [(6, vBig_F), (23, PourBack_F), (24, sPourBack_F), (29, IsGarden_F), (30, sIsGarden_F), (31, CountFormsBefore_F), (32, sCountFormsBefore_F), (38, vSources_F), (39, vRacks_F), (40, Pour_F)], [(22, DrawPourBack_F), (25, SourcesOf_F), (26, sSourcesOf_F), (27, RacksBefore_F), (28, sRacksBefore_F), (33, GardensBefore_F), (34, sGardensBefore_F), (11, vCut_F), (35, DrawBackTo_F), (36, BackTo_F), (37, sBackTo_F), (41, PoursOf_F)], true, true, 1, [], []⟩ : Cx) 1 (cdN 19 (Tryz.f4.body.getD .skip)) S H n soK := by
  have hE0 := hE
  obtain ⟨s3, s4, s5, s6, s9, s10, s13, s17, s21, s25, s29, s30, s31, s32, hr, hq, hb, hx, hy, la, lr, lg, lt_, hlt, hwf0, h1n⟩ := hE
  have ka := la.kn
  have kr := lr.kn
  have kg := lg.kn
  have kt := lt_.kn
  have ja := ka
  have jr := kr
  have jg := kg
  have jt := kt
  simp only [SV.known] at ja jr jg jt
  have wa := la.wfv (Nat.le_refl n)
  have wr := lr.wfv (Nat.le_refl n)
  have wg := lg.wfv (Nat.le_refl n)
  have wt := lt_.wfv (Nat.le_refl n)
  have tkR : R.take 24 = R := List.take_of_length_le (by omega)
  rw [cd_cut (show cdN 19 (Tryz.f4.body.getD .skip) = .seq (cd1 (cdN 19 (Tryz.f4.body.getD .skip))) (cdN 20 (Tryz.f4.body.getD .skip)) from rfl)]
  have next := fun S' H' n' (h : SoS S' H' n' R s A B r q b x y va vr vg vt) => so_b20 S' H' n' R s A B r q b x y va vr vg vt h hR hA hB
  obtain ⟨cn, en⟩ : ∃ c, c = cdN 20 (Tryz.f4.body.getD .skip) := ⟨_, rfl⟩
  rw [← en] at next ⊢
  simp only [cdN, cd1, cd2, Tryz.f4, Option.getD_some]
  cases hp : pbkB R s
  · simp -implicitDefEqProofs only [s6, hp, PourBack_F, sPourBack_F, IsGarden_F, sIsGarden_F, CountFormsBefore_F, sCountFormsBefore_F, Pour_F, PoursOf_F, SourcesOf_F, sSourcesOf_F, RacksBefore_F, sRacksBefore_F, GardensBefore_F, sGardensBefore_F, BackTo_F, sBackTo_F, Wrap.ap, eqI_rack, eqI_src, Nat.add_assoc, add_self, self_add, add_add, List.getD_cons_zero, List.getD_cons_succ, ZB, Int.reduceToNat, Nat.reduceLT, Nat.reduceLeDiff, Int.reduceLE, Int.reduceLT, Nat.reduceEqDiff, Nat.reduceSub, SB, SV.known, packR, ne_eq, reduceCtorEq, Nat.reduceEqDiff, ↓reduceIte, if_true, if_false, eq_self, Nat.reduceAdd, Nat.reduceMul, Nat.reduceSub, forall_const, oneCellS, litOne, flat1, Kd.isSca, flat, TYB]
    exact next _ _ _ (hE0.up (by (repeat (first | refine so_up ?_ (by decide) | exact fun _ _ => rfl))) (Kpt.refl hwf0))
  · obtain ⟨p1, p2, p3⟩ := so_back hR hp
    have lT := pbkT_len hR s
    have tkT : (pbkT R s).take 24 = pbkT R s := List.take_of_length_le (by omega)
    have d1 : (r = n) = False := by simp; omega
    have d2 : (q = n) = False := by simp; omega
    simp -implicitDefEqProofs only [s3, s4, s5, s6, hp, hr, hq, hb, hs3, lT, tkT, p1, p2, p3, hR, tkR, d1, d2, PourBack_F, sPourBack_F, IsGarden_F, sIsGarden_F, CountFormsBefore_F, sCountFormsBefore_F, Pour_F, PoursOf_F, SourcesOf_F, sSourcesOf_F, RacksBefore_F, sRacksBefore_F, GardensBefore_F, sGardensBefore_F, BackTo_F, sBackTo_F, Wrap.ap, eqI_rack, eqI_src, Nat.add_assoc, add_self, self_add, add_add, List.getD_cons_zero, List.getD_cons_succ, ZB, Int.reduceToNat, Nat.reduceLT, Nat.reduceLeDiff, Int.reduceLE, Int.reduceLT, Nat.reduceEqDiff, Nat.reduceSub, SB, SV.known, packR, ne_eq, reduceCtorEq, Nat.reduceEqDiff, ↓reduceIte, if_true, if_false, eq_self, Nat.reduceAdd, Nat.reduceMul, Nat.reduceSub, forall_const, oneCellS, litOne, flat1, Kd.isSca, flat, TYB]
    exact ⟨h1n, next _ _ _ (hE0.up (by (repeat (first | refine so_up ?_ (by decide) | exact fun _ _ => rfl))) (((Kpt.refl hwf0).push).put (by omega)))⟩
set_option maxHeartbeats 8000000 in
theorem lawFnSources_vc (cv : SV) (H0 : Heap) (hB : BytA cv H0) (hrb : vBig_F [cv] H0 = some (True, .bool false)) (hkn : cv.known = true) (hw0 : hwf 1 H0) (hcap : capOK cv) :
    codeVC (⟨Tryz.prog, tys, [(6, vBig_F), (23, PourBack_F), (24, sPourBack_F), (29, IsGarden_F), (30, sIsGarden_F), (31, CountFormsBefore_F), (32, sCountFormsBefore_F), (38, vSources_F), (39, vRacks_F), (40, Pour_F)], [(22, DrawPourBack_F), (25, SourcesOf_F), (26, sSourcesOf_F), (27, RacksBefore_F), (28, sRacksBefore_F), (33, GardensBefore_F), (34, sGardensBefore_F), (11, vCut_F), (35, DrawBackTo_F), (36, BackTo_F), (37, sBackTo_F), (41, PoursOf_F)], true, true, 1, [], []⟩ : Cx) 1 (Tryz.f4.body.getD .skip) (argS 0 [cv]) H0 1 soK := by
  have hkm := hkn
  simp only [SV.known] at hkm
  rw [show (Tryz.f4.body.getD .skip) = cdP 19 (Tryz.f4.body.getD .skip) (cdN 19 (Tryz.f4.body.getD .skip)) from rfl]
  have next := so_b19
  obtain ⟨c14, e14⟩ : ∃ c, c = cdN 19 (Tryz.f4.body.getD .skip) := ⟨_, rfl⟩
  rw [← e14] at next ⊢
  simp only [cdP, Tryz.f4, Option.getD_some, List.append_eq, List.cons_append, List.nil_append]
  simp -implicitDefEqProofs only [argS, hrb, hkn, hkm, PourBack_F, sPourBack_F, IsGarden_F, sIsGarden_F, CountFormsBefore_F, sCountFormsBefore_F, Pour_F, PoursOf_F, SourcesOf_F, sSourcesOf_F, RacksBefore_F, sRacksBefore_F, GardensBefore_F, sGardensBefore_F, BackTo_F, sBackTo_F, Wrap.ap, eqI_rack, eqI_src, Nat.add_assoc, add_self, self_add, add_add, List.getD_cons_zero, List.getD_cons_succ, ZB, Int.reduceToNat, Nat.reduceLT, Nat.reduceLeDiff, Int.reduceLE, Int.reduceLT, Nat.reduceEqDiff, Nat.reduceSub, SB, SV.known, packR, ne_eq, reduceCtorEq, Nat.reduceEqDiff, ↓reduceIte, if_true, if_false, eq_self, Nat.reduceAdd, Nat.reduceMul, Nat.reduceSub, forall_const, oneCellS, litOne, flat1, Kd.isSca, flat, TYB]
  refine drawPK_use hB (Nat.le_refl _) fun R s H1 n1 hR hRi hs hsi hK1 => ?_
  have tkR : R.take 24 = R := List.take_of_length_le (by omega)
  have tks : s.take 3 = s := List.take_of_length_le (by omega)
  have lT := pbkT_len hR s
  have tkT : (pbkT R s).take 24 = pbkT R s := List.take_of_length_le (by omega)
  have hle1 := hK1.le
  have a1 : (n1 = n1 + 1) = False := by simp
  simp -implicitDefEqProofs only [hR, tkR, hs, tks, lT, tkT, a1, hkn, hkm, PourBack_F, sPourBack_F, IsGarden_F, sIsGarden_F, CountFormsBefore_F, sCountFormsBefore_F, Pour_F, PoursOf_F, SourcesOf_F, sSourcesOf_F, RacksBefore_F, sRacksBefore_F, GardensBefore_F, sGardensBefore_F, BackTo_F, sBackTo_F, Wrap.ap, eqI_rack, eqI_src, Nat.add_assoc, add_self, self_add, add_add, List.getD_cons_zero, List.getD_cons_succ, ZB, Int.reduceToNat, Nat.reduceLT, Nat.reduceLeDiff, Int.reduceLE, Int.reduceLT, Nat.reduceEqDiff, Nat.reduceSub, SB, SV.known, packR, ne_eq, reduceCtorEq, Nat.reduceEqDiff, ↓reduceIte, if_true, if_false, eq_self, Nat.reduceAdd, Nat.reduceMul, Nat.reduceSub, forall_const, oneCellS, litOne, flat1, Kd.isSca, flat, TYB]
  have hKa : hwf (n1 + 4) ((n1 + 3, .ints (pbkT R s) 27) :: (n1 + 3, .ints (List.replicate 24 0) 27) :: (n1 + 2, .ints (pbkT R s) 27) :: (n1 + 2, .ints (List.replicate 24 0) 27) :: (n1 + 1, .ints s 48) :: (n1, .ints R 27) :: (n1 + 1, .ints (List.replicate 3 0) 48) :: (n1, .ints (List.replicate 24 0) 27) :: H1) :=
    hwf_cons (hwf_cons (hwf_cons (hwf_cons (hwf_cons (hwf_cons (hwf_cons (hwf_cons (hwf_mono (by omega) hK1.wf) (by omega) trivial) (by omega) trivial) (by omega) trivial) (by omega) trivial) (by omega) trivial) (by omega) trivial) (by omega) trivial) (by omega) trivial
  have esl : (soF R).length = (soF R).length / 3 * 3 := by obtain ⟨k, h1, _⟩ := soF_three R; omega
  have hsl : (soF R).length / 3 ≤ 144 := by obtain ⟨k, h1, h2⟩ := soF_three R; omega
  have erl := flat_len (rbL_24 hR)
  have hrl := rbL_le hR
  have egl := flat_len (gbL_24 hR)
  have hgl := gbL_le hR
  refine ⟨hle1, freshK_sl hKa esl (by omega) fun va H2 n2 la hK2 => ?_⟩
  have hle2 := hK2.le
  have gr2 := hK2.fr n1 (.ints R 27) (by omega) (by simp [hget_cons])
  have gs2 := hK2.fr (n1 + 1) (.ints s 48) (by omega) (by simp [hget_cons])
  have gb2 := hK2.fr (n1 + 2) (.ints (pbkT R s) 27) (by omega) (by simp [hget_cons])
  have gw2 := hK2.fr (n1 + 3) (.ints (pbkT R s) 27) (by omega) (by simp [hget_cons])
  have hB2 : BytA cv H2 := hB.fr hw0 (fun i o hi ho => hK2.fr i o (by omega) (by (repeat rw [hget_cons, if_neg (by omega)]); exact hK1.fr i o hi ho))
  have ka := la.kn
  have ja := ka
  simp only [SV.known] at ja
  simp -implicitDefEqProofs only [hR, tkR, gr2, ka, ja, hkn, hkm, PourBack_F, sPourBack_F, IsGarden_F, sIsGarden_F, CountFormsBefore_F, sCountFormsBefore_F, Pour_F, PoursOf_F, SourcesOf_F, sSourcesOf_F, RacksBefore_F, sRacksBefore_F, GardensBefore_F, sGardensBefore_F, BackTo_F, sBackTo_F, Wrap.ap, eqI_rack, eqI_src, Nat.add_assoc, add_self, self_add, add_add, List.getD_cons_zero, List.getD_cons_succ, ZB, Int.reduceToNat, Nat.reduceLT, Nat.reduceLeDiff, Int.reduceLE, Int.reduceLT, Nat.reduceEqDiff, Nat.reduceSub, SB, SV.known, packR, ne_eq, reduceCtorEq, Nat.reduceEqDiff, ↓reduceIte, if_true, if_false, eq_self, Nat.reduceAdd, Nat.reduceMul, Nat.reduceSub, forall_const, oneCellS, litOne, flat1, Kd.isSca, flat, TYB]
  refine freshK_sl hK2.wf esl (by omega) fun va' H3 n3 la' hK3 => ?_
  have hle3 := hK3.le
  have gr3 := hK3.fr _ _ (by omega) gr2
  have ka' := la'.kn
  have ja' := ka'
  simp only [SV.known] at ja'
  simp -implicitDefEqProofs only [hR, tkR, gr3, ka, ja, ka', ja', hkn, hkm, PourBack_F, sPourBack_F, IsGarden_F, sIsGarden_F, CountFormsBefore_F, sCountFormsBefore_F, Pour_F, PoursOf_F, SourcesOf_F, sSourcesOf_F, RacksBefore_F, sRacksBefore_F, GardensBefore_F, sGardensBefore_F, BackTo_F, sBackTo_F, Wrap.ap, eqI_rack, eqI_src, Nat.add_assoc, add_self, self_add, add_add, List.getD_cons_zero, List.getD_cons_succ, ZB, Int.reduceToNat, Nat.reduceLT, Nat.reduceLeDiff, Int.reduceLE, Int.reduceLT, Nat.reduceEqDiff, Nat.reduceSub, SB, SV.known, packR, ne_eq, reduceCtorEq, Nat.reduceEqDiff, ↓reduceIte, if_true, if_false, eq_self, Nat.reduceAdd, Nat.reduceMul, Nat.reduceSub, forall_const, oneCellS, litOne, flat1, Kd.isSca, flat, TYB]
  refine freshK_sl hK3.wf erl (by omega) fun vr H4 n4 lr hK4 => ?_
  have hle4 := hK4.le
  have gr4 := hK4.fr _ _ (by omega) gr3
  have kr := lr.kn
  have jr := kr
  simp only [SV.known] at jr
  simp -implicitDefEqProofs only [hR, tkR, gr4, ka, ja, ka', ja', kr, jr, hkn, hkm, PourBack_F, sPourBack_F, IsGarden_F, sIsGarden_F, CountFormsBefore_F, sCountFormsBefore_F, Pour_F, PoursOf_F, SourcesOf_F, sSourcesOf_F, RacksBefore_F, sRacksBefore_F, GardensBefore_F, sGardensBefore_F, BackTo_F, sBackTo_F, Wrap.ap, eqI_rack, eqI_src, Nat.add_assoc, add_self, self_add, add_add, List.getD_cons_zero, List.getD_cons_succ, ZB, Int.reduceToNat, Nat.reduceLT, Nat.reduceLeDiff, Int.reduceLE, Int.reduceLT, Nat.reduceEqDiff, Nat.reduceSub, SB, SV.known, packR, ne_eq, reduceCtorEq, Nat.reduceEqDiff, ↓reduceIte, if_true, if_false, eq_self, Nat.reduceAdd, Nat.reduceMul, Nat.reduceSub, forall_const, oneCellS, litOne, flat1, Kd.isSca, flat, TYB]
  refine freshK_sl hK4.wf erl (by omega) fun vr' H5 n5 lr' hK5 => ?_
  have hle5 := hK5.le
  have gr5 := hK5.fr _ _ (by omega) gr4
  have kr' := lr'.kn
  have jr' := kr'
  simp only [SV.known] at jr'
  simp -implicitDefEqProofs only [hR, tkR, gr5, ka, ja, ka', ja', kr, jr, kr', jr', hkn, hkm, PourBack_F, sPourBack_F, IsGarden_F, sIsGarden_F, CountFormsBefore_F, sCountFormsBefore_F, Pour_F, PoursOf_F, SourcesOf_F, sSourcesOf_F, RacksBefore_F, sRacksBefore_F, GardensBefore_F, sGardensBefore_F, BackTo_F, sBackTo_F, Wrap.ap, eqI_rack, eqI_src, Nat.add_assoc, add_self, self_add, add_add, List.getD_cons_zero, List.getD_cons_succ, ZB, Int.reduceToNat, Nat.reduceLT, Nat.reduceLeDiff, Int.reduceLE, Int.reduceLT, Nat.reduceEqDiff, Nat.reduceSub, SB, SV.known, packR, ne_eq, reduceCtorEq, Nat.reduceEqDiff, ↓reduceIte, if_true, if_false, eq_self, Nat.reduceAdd, Nat.reduceMul, Nat.reduceSub, forall_const, oneCellS, litOne, flat1, Kd.isSca, flat, TYB]
  refine freshK_sl hK5.wf egl (by omega) fun vg H6 n6 lg hK6 => ?_
  have hle6 := hK6.le
  have gr6 := hK6.fr _ _ (by omega) gr5
  have kg := lg.kn
  have jg := kg
  simp only [SV.known] at jg
  simp -implicitDefEqProofs only [hR, tkR, gr6, ka, ja, ka', ja', kr, jr, kr', jr', kg, jg, hkn, hkm, PourBack_F, sPourBack_F, IsGarden_F, sIsGarden_F, CountFormsBefore_F, sCountFormsBefore_F, Pour_F, PoursOf_F, SourcesOf_F, sSourcesOf_F, RacksBefore_F, sRacksBefore_F, GardensBefore_F, sGardensBefore_F, BackTo_F, sBackTo_F, Wrap.ap, eqI_rack, eqI_src, Nat.add_assoc, add_self, self_add, add_add, List.getD_cons_zero, List.getD_cons_succ, ZB, Int.reduceToNat, Nat.reduceLT, Nat.reduceLeDiff, Int.reduceLE, Int.reduceLT, Nat.reduceEqDiff, Nat.reduceSub, SB, SV.known, packR, ne_eq, reduceCtorEq, Nat.reduceEqDiff, ↓reduceIte, if_true, if_false, eq_self, Nat.reduceAdd, Nat.reduceMul, Nat.reduceSub, forall_const, oneCellS, litOne, flat1, Kd.isSca, flat, TYB]
  refine freshK_sl hK6.wf egl (by omega) fun vg' H7 n7 lg' hK7 => ?_
  have hle7 := hK7.le
  have kg' := lg'.kn
  have jg' := kg'
  simp only [SV.known] at jg'
  have hK27 : Kpt n2 H2 H7 n7 := hK3.trans (hK4.trans (hK5.trans (hK6.trans hK7)))
  have hB7 : BytA cv H7 := hB2.fr hK2.wf (fun i o hi ho => hK27.fr i o hi ho)
  simp -implicitDefEqProofs only [ka, ja, ka', ja', kr, jr, kr', jr', kg, jg, kg', jg', hkn, hkm, PourBack_F, sPourBack_F, IsGarden_F, sIsGarden_F, CountFormsBefore_F, sCountFormsBefore_F, Pour_F, PoursOf_F, SourcesOf_F, sSourcesOf_F, RacksBefore_F, sRacksBefore_F, GardensBefore_F, sGardensBefore_F, BackTo_F, sBackTo_F, Wrap.ap, eqI_rack, eqI_src, Nat.add_assoc, add_self, self_add, add_add, List.getD_cons_zero, List.getD_cons_succ, ZB, Int.reduceToNat, Nat.reduceLT, Nat.reduceLeDiff, Int.reduceLE, Int.reduceLT, Nat.reduceEqDiff, Nat.reduceSub, SB, SV.known, packR, ne_eq, reduceCtorEq, Nat.reduceEqDiff, ↓reduceIte, if_true, if_false, eq_self, Nat.reduceAdd, Nat.reduceMul, Nat.reduceSub, forall_const, oneCellS, litOne, flat1, Kd.isSca, flat, TYB]
  refine cut_use hB7 hcap (.inl rfl) (by omega) fun b8 l8 c8 H8 n8 hB8 hK8 => ?_
  have hle8 := hK8.le
  simp -implicitDefEqProofs only [ka, ja, ka', ja', kr, jr, kr', jr', kg, jg, kg', jg', hkn, hkm, PourBack_F, sPourBack_F, IsGarden_F, sIsGarden_F, CountFormsBefore_F, sCountFormsBefore_F, Pour_F, PoursOf_F, SourcesOf_F, sSourcesOf_F, RacksBefore_F, sRacksBefore_F, GardensBefore_F, sGardensBefore_F, BackTo_F, sBackTo_F, Wrap.ap, eqI_rack, eqI_src, Nat.add_assoc, add_self, self_add, add_add, List.getD_cons_zero, List.getD_cons_succ, ZB, Int.reduceToNat, Nat.reduceLT, Nat.reduceLeDiff, Int.reduceLE, Int.reduceLT, Nat.reduceEqDiff, Nat.reduceSub, SB, SV.known, packR, ne_eq, reduceCtorEq, Nat.reduceEqDiff, ↓reduceIte, if_true, if_false, eq_self, Nat.reduceAdd, Nat.reduceMul, Nat.reduceSub, forall_const, oneCellS, litOne, flat1, Kd.isSca, flat, TYB]
  refine drawBT_use hB8 (by omega) fun A B H9 n9 hA hAi hBB hBi hK9 => ?_
  have hle9 := hK9.le
  have tkA : A.take 24 = A := List.take_of_length_le (by omega)
  have tkB : B.take 24 = B := List.take_of_length_le (by omega)
  have a2 : (n9 = n9 + 1) = False := by simp
  simp -implicitDefEqProofs only [hA, tkA, hBB, tkB, a2, ka, ja, ka', ja', kr, jr, kr', jr', kg, jg, kg', jg', hkn, hkm, PourBack_F, sPourBack_F, IsGarden_F, sIsGarden_F, CountFormsBefore_F, sCountFormsBefore_F, Pour_F, PoursOf_F, SourcesOf_F, sSourcesOf_F, RacksBefore_F, sRacksBefore_F, GardensBefore_F, sGardensBefore_F, BackTo_F, sBackTo_F, Wrap.ap, eqI_rack, eqI_src, Nat.add_assoc, add_self, self_add, add_add, List.getD_cons_zero, List.getD_cons_succ, ZB, Int.reduceToNat, Nat.reduceLT, Nat.reduceLeDiff, Int.reduceLE, Int.reduceLT, Nat.reduceEqDiff, Nat.reduceSub, SB, SV.known, packR, ne_eq, reduceCtorEq, Nat.reduceEqDiff, ↓reduceIte, if_true, if_false, eq_self, Nat.reduceAdd, Nat.reduceMul, Nat.reduceSub, forall_const, oneCellS, litOne, flat1, Kd.isSca, flat, TYB]
  have hK9p : Kpt n9 H9 ((n9 + 1, .ints B 27) :: (n9, .ints A 27) :: (n9 + 1, .ints (List.replicate 24 0) 27) :: (n9, .ints (List.replicate 24 0) 27) :: H9) (n9 + 2) :=
    ⟨by omega, hwf_cons (hwf_cons (hwf_cons (hwf_cons (hwf_mono (by omega) hK9.wf) (by omega) trivial) (by omega) trivial) (by omega) trivial) (by omega) trivial, fun i o hi ho => by (repeat rw [hget_cons, if_neg (by omega)]); exact ho⟩
  have etl : (btoF A B).length = (btoF A B).length / 3 * 3 := by obtain ⟨k, h1, _⟩ := btoF_three A B; omega
  have htl : (btoF A B).length / 3 ≤ 144 := by obtain ⟨k, h1, h2⟩ := btoF_three A B; omega
  refine ⟨by omega, freshK_sl hK9p.wf etl (by omega) fun vt H10 n10 lt hK10 => ?_⟩
  have hle10 := hK10.le
  have gx10 := hK10.fr n9 (.ints A 27) (by omega) (by simp [hget_cons])
  have gy10 := hK10.fr (n9 + 1) (.ints B 27) (by omega) (by simp [hget_cons])
  have kt := lt.kn
  have jt := kt
  simp only [SV.known] at jt
  simp -implicitDefEqProofs only [hA, tkA, hBB, tkB, gx10, gy10, ka, ja, ka', ja', kr, jr, kr', jr', kg, jg, kg', jg', kt, jt, hkn, hkm, PourBack_F, sPourBack_F, IsGarden_F, sIsGarden_F, CountFormsBefore_F, sCountFormsBefore_F, Pour_F, PoursOf_F, SourcesOf_F, sSourcesOf_F, RacksBefore_F, sRacksBefore_F, GardensBefore_F, sGardensBefore_F, BackTo_F, sBackTo_F, Wrap.ap, eqI_rack, eqI_src, Nat.add_assoc, add_self, self_add, add_add, List.getD_cons_zero, List.getD_cons_succ, ZB, Int.reduceToNat, Nat.reduceLT, Nat.reduceLeDiff, Int.reduceLE, Int.reduceLT, Nat.reduceEqDiff, Nat.reduceSub, SB, SV.known, packR, ne_eq, reduceCtorEq, Nat.reduceEqDiff, ↓reduceIte, if_true, if_false, eq_self, Nat.reduceAdd, Nat.reduceMul, Nat.reduceSub, forall_const, oneCellS, litOne, flat1, Kd.isSca, flat, TYB]
  refine freshK_sl hK10.wf etl (by omega) fun vt' H11 n11 lt' hK11 => ?_
  have hle11 := hK11.le
  have kt' := lt'.kn
  have jt' := kt'
  simp only [SV.known] at jt'
  have T8 : Kpt n7 H7 H11 n11 := hK8.trans (hK9.trans (hK9p.trans (hK10.trans hK11)))
  have T7 := hK7.trans T8
  have T6 := hK6.trans T7
  have T5 := hK5.trans T6
  have T4 := hK4.trans T5
  have T3 := hK3.trans T4
  have la1 := la.up (fun i o hi ho => T3.fr i o hi ho)
  have la2 := la'.up (fun i o hi ho => T4.fr i o hi ho)
  have lr1 := lr.up (fun i o hi ho => T5.fr i o hi ho)
  have lr2 := lr'.up (fun i o hi ho => T6.fr i o hi ho)
  have lg1 := lg.up (fun i o hi ho => T7.fr i o hi ho)
  have lg2 := lg'.up (fun i o hi ho => T8.fr i o hi ho)
  have lt1 := lt.up (fun i o hi ho => hK11.fr i o hi ho)
  obtain ⟨P1, q1, e1⟩ := vS_use la1 la2 (Nat.le_refl _) (by omega)
  obtain ⟨P2, q2, e2⟩ := vR_use lr1 lr2 (Nat.le_refl _) (by omega)
  obtain ⟨P3, q3, e3⟩ := vR_use lg1 lg2 (Nat.le_refl _) (by omega)
  obtain ⟨P4, q4, e4⟩ := vS_use lt1 lt' (Nat.le_refl _) (by omega)
  have gr11 := T3.fr _ _ (by omega) gr2
  have gs11 := T3.fr _ _ (by omega) gs2
  have gb11 := T3.fr _ _ (by omega) gb2
  have gw11 := T3.fr _ _ (by omega) gw2
  have gx11 := hK11.fr _ _ (by omega) gx10
  have gy11 := hK11.fr _ _ (by omega) gy10
  have pbr : (pbkB R s && !rackB R) = false := by unfold pbkB; cases rackB R <;> simp
  cases hpb : pbkB R s with
  | false =>
    cases hrk : rackB R with
    | false =>
      simp -implicitDefEqProofs only [gb11, gw11, lT, tkT, q1, e1, q2, e2, q3, e3, q4, e4, hpb, hrk, ka, ja, ka', ja', kr, jr, kr', jr', kg, jg, kg', jg', kt, jt, kt', jt', hkn, hkm, PourBack_F, sPourBack_F, IsGarden_F, sIsGarden_F, CountFormsBefore_F, sCountFormsBefore_F, Pour_F, PoursOf_F, SourcesOf_F, sSourcesOf_F, RacksBefore_F, sRacksBefore_F, GardensBefore_F, sGardensBefore_F, BackTo_F, sBackTo_F, Wrap.ap, eqI_rack, eqI_src, Nat.add_assoc, add_self, self_add, add_add, List.getD_cons_zero, List.getD_cons_succ, ZB, Int.reduceToNat, Nat.reduceLT, Nat.reduceLeDiff, Int.reduceLE, Int.reduceLT, Nat.reduceEqDiff, Nat.reduceSub, SB, SV.known, packR, ne_eq, reduceCtorEq, Nat.reduceEqDiff, ↓reduceIte, if_true, if_false, eq_self, Nat.reduceAdd, Nat.reduceMul, Nat.reduceSub, forall_const, oneCellS, litOne, flat1, Kd.isSca, flat, TYB]
      exact next _ _ _ R s A B n1 (n1 + 1) (n1 + 2) n9 (n9 + 1) va vr vg vt ⟨rfl, rfl, rfl, by rw [hpb]; rfl, rfl, by rw [hrk]; rfl, rfl, by rw [hrk]; rfl, rfl, rfl, rfl, rfl, rfl, rfl, gr11, gs11, gb11, gx11, gy11, la1.wk (Nat.zero_le _) (by omega), lr1.wk (Nat.zero_le _) (by omega), lg1.wk (Nat.zero_le _) (by omega), lt1.wk (Nat.zero_le _) (by omega), by omega, hK11.wf, by omega⟩ hR hs hsi hA hBB
    | true =>
      simp -implicitDefEqProofs only [gb11, gw11, lT, tkT, q1, e1, q2, e2, q3, e3, q4, e4, hpb, hrk, ka, ja, ka', ja', kr, jr, kr', jr', kg, jg, kg', jg', kt, jt, kt', jt', hkn, hkm, PourBack_F, sPourBack_F, IsGarden_F, sIsGarden_F, CountFormsBefore_F, sCountFormsBefore_F, Pour_F, PoursOf_F, SourcesOf_F, sSourcesOf_F, RacksBefore_F, sRacksBefore_F, GardensBefore_F, sGardensBefore_F, BackTo_F, sBackTo_F, Wrap.ap, eqI_rack, eqI_src, Nat.add_assoc, add_self, self_add, add_add, List.getD_cons_zero, List.getD_cons_succ, ZB, Int.reduceToNat, Nat.reduceLT, Nat.reduceLeDiff, Int.reduceLE, Int.reduceLT, Nat.reduceEqDiff, Nat.reduceSub, SB, SV.known, packR, ne_eq, reduceCtorEq, Nat.reduceEqDiff, ↓reduceIte, if_true, if_false, eq_self, Nat.reduceAdd, Nat.reduceMul, Nat.reduceSub, forall_const, oneCellS, litOne, flat1, Kd.isSca, flat, TYB]
      exact next _ _ _ R s A B n1 (n1 + 1) (n1 + 2) n9 (n9 + 1) va vr vg vt ⟨rfl, rfl, rfl, by rw [hpb]; rfl, rfl, by rw [hrk]; rfl, rfl, by rw [hrk]; rfl, rfl, rfl, rfl, rfl, rfl, rfl, gr11, gs11, gb11, gx11, gy11, la1.wk (Nat.zero_le _) (by omega), lr1.wk (Nat.zero_le _) (by omega), lg1.wk (Nat.zero_le _) (by omega), lt1.wk (Nat.zero_le _) (by omega), by omega, hK11.wf, by omega⟩ hR hs hsi hA hBB
  | true =>
    have hrk : rackB R = true := by rw [hpb] at pbr; simpa using pbr
    simp -implicitDefEqProofs only [gb11, gw11, lT, tkT, q1, e1, q2, e2, q3, e3, q4, e4, hpb, hrk, ka, ja, ka', ja', kr, jr, kr', jr', kg, jg, kg', jg', kt, jt, kt', jt', hkn, hkm, PourBack_F, sPourBack_F, IsGarden_F, sIsGarden_F, CountFormsBefore_F, sCountFormsBefore_F, Pour_F, PoursOf_F, SourcesOf_F, sSourcesOf_F, RacksBefore_F, sRacksBefore_F, GardensBefore_F, sGardensBefore_F, BackTo_F, sBackTo_F, Wrap.ap, eqI_rack, eqI_src, Nat.add_assoc, add_self, self_add, add_add, List.getD_cons_zero, List.getD_cons_succ, ZB, Int.reduceToNat, Nat.reduceLT, Nat.reduceLeDiff, Int.reduceLE, Int.reduceLT, Nat.reduceEqDiff, Nat.reduceSub, SB, SV.known, packR, ne_eq, reduceCtorEq, Nat.reduceEqDiff, ↓reduceIte, if_true, if_false, eq_self, Nat.reduceAdd, Nat.reduceMul, Nat.reduceSub, forall_const, oneCellS, litOne, flat1, Kd.isSca, flat, TYB]
    exact next _ _ _ R s A B n1 (n1 + 1) (n1 + 2) n9 (n9 + 1) va vr vg vt ⟨rfl, rfl, rfl, by rw [hpb]; rfl, rfl, by rw [hrk]; rfl, rfl, by rw [hrk]; rfl, rfl, rfl, rfl, rfl, rfl, rfl, gr11, gs11, gb11, gx11, gy11, la1.wk (Nat.zero_le _) (by omega), lr1.wk (Nat.zero_le _) (by omega), lg1.wk (Nat.zero_le _) (by omega), lt1.wk (Nat.zero_le _) (by omega), by omega, hK11.wf, by omega⟩ hR hs hsi hA hBB
theorem lawFnSources (L : List Int) (off len cap : Nat) (hlc : len ≤ cap) (_ : cap ≤ maxLen) (hLl : L.length = len) (hLb : ∀ x ∈ L, 0 ≤ x ∧ x ≤ 255) :
    PureH Tryz.prog 4 [.slice 0 off len cap] [(0, .winU off L)] (.bool true) := by
  by_cases hbig : (65536 : Int) < (len : Int)
  · refine pure_of_vc (X := ⟨Tryz.prog, tys, [(6, vBig_F)], [], true, true, 1, [], []⟩) fn_4 ⟨tys_ok, (.cons vBig_T .nil), .nil, mixed⟩ (n0 := 1) (Nat.le_of_ble_eq_true rfl) (by simp [wfL, SV.wf]) (wfH_spec (by simp [wfH, SObj.wf])) (Nat.le_refl _) (fun _ => by simp [SV.wf, wfL]) ?_
    simp -implicitDefEqProofs only [Tryz.f4, Option.getD_some, argS, vBig_F, hbig, ZB, Int.reduceToNat, Nat.reduceLT, Nat.reduceLeDiff, Int.reduceLE, Int.reduceLT, Nat.reduceEqDiff, Nat.reduceSub, SB, SV.known, packR, ne_eq, reduceCtorEq, Nat.reduceEqDiff, ↓reduceIte, if_true, if_false, eq_self, Nat.reduceAdd, Nat.reduceMul, Nat.reduceSub, forall_const, oneCellS, litOne, flat1, Kd.isSca, flat, TYB]
  · refine pure_of_vc (X := ⟨Tryz.prog, tys, [(6, vBig_F), (23, PourBack_F), (24, sPourBack_F), (29, IsGarden_F), (30, sIsGarden_F), (31, CountFormsBefore_F), (32, sCountFormsBefore_F), (38, vSources_F), (39, vRacks_F), (40, Pour_F)], [(22, DrawPourBack_F), (25, SourcesOf_F), (26, sSourcesOf_F), (27, RacksBefore_F), (28, sRacksBefore_F), (33, GardensBefore_F), (34, sGardensBefore_F), (11, vCut_F), (35, DrawBackTo_F), (36, BackTo_F), (37, sBackTo_F), (41, PoursOf_F)], true, true, 1, [], []⟩) (show FnOK Tryz.prog 4 Tryz.f4 (Tryz.f4.body.getD .skip) [] [] from ⟨Tryz.func4, rfl, by kernel_rfl, by kernel_rfl⟩) ⟨tys_ok, (.cons vBig_T (.cons PourBack_T (.cons sPourBack_T (.cons IsGarden_T (.cons sIsGarden_T (.cons CountFormsBefore_T (.cons sCountFormsBefore_T (.cons vSources_T (.cons vRacks_T (.cons Pour_T .nil)))))))))), (.cons DrawPourBack_T (.cons SourcesOf_T (.cons sSourcesOf_T (.cons RacksBefore_T (.cons sRacksBefore_T (.cons GardensBefore_T (.cons sGardensBefore_T (.cons vCut_T (.cons DrawBackTo_T (.cons BackTo_T (.cons sBackTo_T (.cons PoursOf_T .nil)))))))))))), mixed⟩ (n0 := 1) (Nat.le_of_ble_eq_true rfl) (by simp [wfL, SV.wf]) (wfH_spec (by simp [wfH, SObj.wf])) (Nat.le_refl _) (fun _ => by simp [SV.wf, wfL]) ?_
    exact lawFnSources_vc _ _ (.inr ⟨0, off, len, cap, L, rfl, by simp [hget_cons], hLl, by omega, hLb⟩) (by simp [vBig_F, hget_cons, hbig]) rfl (wfH_spec (by simp [wfH, SObj.wf])) hlc
theorem lawFnSourcesN : PureH Tryz.prog 4 [.nils] [] (.bool true) := by
  · refine pure_of_vc (X := ⟨Tryz.prog, tys, [(6, vBig_F), (23, PourBack_F), (24, sPourBack_F), (29, IsGarden_F), (30, sIsGarden_F), (31, CountFormsBefore_F), (32, sCountFormsBefore_F), (38, vSources_F), (39, vRacks_F), (40, Pour_F)], [(22, DrawPourBack_F), (25, SourcesOf_F), (26, sSourcesOf_F), (27, RacksBefore_F), (28, sRacksBefore_F), (33, GardensBefore_F), (34, sGardensBefore_F), (11, vCut_F), (35, DrawBackTo_F), (36, BackTo_F), (37, sBackTo_F), (41, PoursOf_F)], true, true, 1, [], []⟩) (show FnOK Tryz.prog 4 Tryz.f4 (Tryz.f4.body.getD .skip) [] [] from ⟨Tryz.func4, rfl, by kernel_rfl, by kernel_rfl⟩) ⟨tys_ok, (.cons vBig_T (.cons PourBack_T (.cons sPourBack_T (.cons IsGarden_T (.cons sIsGarden_T (.cons CountFormsBefore_T (.cons sCountFormsBefore_T (.cons vSources_T (.cons vRacks_T (.cons Pour_T .nil)))))))))), (.cons DrawPourBack_T (.cons SourcesOf_T (.cons sSourcesOf_T (.cons RacksBefore_T (.cons sRacksBefore_T (.cons GardensBefore_T (.cons sGardensBefore_T (.cons vCut_T (.cons DrawBackTo_T (.cons BackTo_T (.cons sBackTo_T (.cons PoursOf_T .nil)))))))))))), mixed⟩ (n0 := 1) (Nat.le_of_ble_eq_true rfl) (by simp [wfL, SV.wf]) (wfH_spec (by simp [wfH, SObj.wf])) (Nat.le_refl _) (fun _ => by simp [SV.wf, wfL]) ?_
    exact lawFnSources_vc _ _ (.inl rfl) (by simp [vBig_F]) rfl (wfH_spec (by simp [wfH, SObj.wf])) trivial
end Go.Proofs.YtmccafjblhbmkaaGreat
set_option maxRecDepth 100000
set_option linter.unusedSimpArgs false
set_option linter.unusedVariables false
namespace Go.Proofs.YtmccafjblhbmkaaGreat
open Go Go.RowKit Go.ChangeShapes Go.WideShapes Go.ChangeAt

theorem own_knob : ownKnob Tryz.prog.godebug = none := by kernel_rfl
theorem laid_out : laidOutB Tryz.prog = true := by kernel_rfl

theorem trodAll_below {H : Type} {enc : TypeId × Value → H} {W W' : World} (hb : Below W.heap.size W W') : ∀ {ts : List TypeId} {vs : List Value} {ds : List (DataW H)} {ps : List MemPlace}, DataW.TrodAll enc Tryz.prog W 0 (fun _ => true) true ts vs ds ps →
    (∀ t ∈ ts, Tryz.prog.readableRec t = true ∧ t < Tryz.prog.types.size) → (∀ x ∈ ps, x.block < W.heap.size) → DataW.TrodAll enc Tryz.prog W' 0 (fun b => decide (b < W.heap.size)) true ts vs ds ps
  | [], vs, ds, ps, h, _, _ => by
    obtain ⟨rfl, rfl, rfl⟩ := trodAll_nil h
    exact trodAll_mk0
  | t :: ts, vs, ds, ps, h, hr, hp => by
    obtain ⟨v0, vs0, d0, ds0, p0, q0, rfl, rfl, rfl, h0, r0⟩ := trodAll_cons h
    exact trodAll_cons_mk (Below.trod laid_out (hr t (by simp)).1 (hr t (by simp)).2 h0 hb fun x hx => hp x (by simp [hx])) (trodAll_below hb r0 (fun t' ht' => hr t' (by simp [ht'])) fun x hx => hp x (by simp [hx]))

theorem law_post {H : Type} {enc : TypeId × Value → H} {f : Func} {s : ChangeSpec} {W W' : World} {args : Array Value} {ds gs : List (DataW H)} {before : List MemPlace} (hb : Below W.heap.size W W') (hW : DataW.Whole enc Tryz.prog f.params.toList s.vars false W args.toList ds gs before)
    (hv : s.vars = []) (hrt : f.resultTypes = #[4]) (hs1 : (s.fn H (ds ++ gs)).results = [.lit (.bool true)]) (hs2 : (s.fn H (ds ++ gs)).args = ds) (hs3 : (s.fn H (ds ++ gs)).vars = []) (hr : ∀ t ∈ f.params.toList, Tryz.prog.readableRec t = true ∧ t < Tryz.prog.types.size) :
    s.post enc Tryz.prog f false true false false W args (.bool true) W' := by
  have hW' := hW
  obtain ⟨p, q, hA, hV, rfl, hfz, hnd⟩ := hW
  rw [hv] at hV
  obtain ⟨rfl, rfl⟩ := trodVars_none hV
  refine ⟨ds, _, _, [], p, [], hW', ?_, ?_, ?_, hb.frame _, fun h => by cases h⟩
  · rw [hs1, hrt]
    exact trodAll_cons_mk (shut_bool Tryz.underlying4 true) trodAll_mk0
  · rw [hs2]
    exact trodAll_below hb hA hr fun x hx => by simpa using hW'.lt x (by simpa using hx)
  · rw [hv, hs3]
    rfl
end Go.Proofs.YtmccafjblhbmkaaGreat
set_option maxRecDepth 100000
set_option linter.unusedSimpArgs false
set_option linter.unusedVariables false
namespace Go.Proofs.YtmccafjblhbmkaaGreat
open Go Go.RowKit Go.ChangeShapes Go.WideShapes Go.ChangeAt

theorem add_off (b o n : Nat) : (Addr.mk b o none).add n = ⟨b, o + n, none⟩ := by
  unfold Addr.add
  split
  · rename_i h; rw [h]; rfl
  · rfl
def intOf (v : Option Value) : Int := match v with
  | some (.int _ n) => n
  | _ => 0
end Go.Proofs.YtmccafjblhbmkaaGreat
set_option maxRecDepth 100000
set_option linter.unusedSimpArgs false
set_option linter.unusedVariables false
namespace Go.Proofs.YtmccafjblhbmkaaGreat
open Go Go.RowKit Go.ChangeShapes Go.WideShapes Go.ChangeAt
/-- An argument that is a slice of bytes. -/
theorem open_by {H : Type} {enc : TypeId × Value → H} {W : World} {b0 : Nat} {sp : Nat → Bool} {held : Bool} {t e : Nat} {v : Value} {d : DataW H} {ps : List MemPlace} (ht : Tryz.prog.underlying t = some (.slice e)) (hc : Tryz.prog.cellsOf e = 1) (he : Tryz.prog.underlying e = some (.int .u8))
    (hval : Value.okWide Tryz.prog W .any b0 t v) (hd : DataW.Trod enc Tryz.prog W 0 sp held t v d ps) :
    v = .slice none 0 0 ∨ ∃ (b off len cap : Nat) (L : List Int), v = .slice (some ⟨b, off, none⟩) len cap ∧ len ≤ cap ∧ cap ≤ maxLen ∧ L.length = len ∧ (∀ x ∈ L, 0 ≤ x ∧ x ≤ 255) ∧ SObj.sat (fun _ => b) W b (.winU off L) := by
  unfold Value.okWide at hval
  rw [ht] at hval
  simp only [Cell.okWide] at hval
  rw [ht] at hval
  obtain ⟨fuel, hd⟩ := hd
  rcases DataW.trod_slice ht hd with ⟨h0, _⟩ | ⟨a, len, cap, elems, rest, n, _, hcs, _, _, hl, hm, hlen, hel, _⟩
  · left
    cases v <;> simp_all [Value.cells, Cell.ok]
  · right
    have hv : v = .slice (some a) len cap := by
      cases v <;> simp_all [Value.cells, Cell.ok]
    subst hv
    simp only [Cell.ok, ht] at hval
    obtain ⟨_, _, _, hsp, row, cells, hshape, _⟩ := hval
    obtain ⟨b, off, spot⟩ := a
    simp only at hsp hshape
    subst hsp
    unfold World.shape? at hshape
    split at hshape
    · rename_i c el fz hb
      have each : ∀ k, k < len → ∃ n, c[off + k]? = some (.int .u8 n) ∧ (0 ≤ n ∧ n ≤ 255) := by
        intro k hk
        have h1 := hel k hk
        obtain ⟨y, hy⟩ : ∃ y, elems[k]? = some y := ⟨elems[k]'(by omega), List.getElem?_eq_getElem (by omega)⟩
        rw [hy, hc, Option.bind_eq_some_iff] at h1
        obtain ⟨cs, hcs, h1⟩ := h1
        obtain ⟨m, rfl, _, hw⟩ := DataW.trod_int he h1
        have h2 := (World.cells?_some hcs).2.2 0 (by omega)
        rw [add_off, add_off] at h2
        unfold World.cell? at h2
        simp only [hb] at h2
        refine ⟨m, by simpa using h2, by simpa [Lit.wf, IntKind.min, IntKind.max, IntKind.signed, IntKind.bits] using hw⟩
      refine ⟨b, off, len, cap, (List.range len).map fun k => intOf c[off + k]?, rfl, hl, hm, by simp, fun x hx => ?_, c, el, fz, hb, fun i hi => ?_⟩
      · obtain ⟨k, hk, rfl⟩ := List.mem_map.1 hx
        obtain ⟨m, h1, h2⟩ := each k (List.mem_range.1 hk)
        rw [h1]; exact h2
      · simp at hi
        obtain ⟨m, h1, h2⟩ := each i hi
        rw [h1]
        simp [List.getD, hi, h1, intOf]
    · cases hshape
theorem HR.winU_one {b off : Nat} {L : List Int} {W : World} (h : SObj.sat (fun _ => b) W b (.winU off L)) : HR (fun _ => b) [(0, .winU off L)] W where
  at_ := fun k o hk _ => by
    rw [hget_cons] at hk
    split at hk
    · cases hk; exact h
    · cases hk
  inj := fun k j o o' h1 _ h2 _ _ => by
    rw [hget_cons] at h1 h2
    split at h1
    · split at h2
      · omega
      · cases h2
    · cases h1
end Go.Proofs.YtmccafjblhbmkaaGreat
