/- Walks: sums, arrangements, deals. -/
import Derived.Test.YtnlbljikbonioaaB
set_option maxRecDepth 100000
set_option linter.unusedSimpArgs false
set_option linter.unusedVariables false
namespace Go.Proofs.Ytnlbljikbonioaa
open Go Go.RowKit

/-! Sums. -/
def Bd (a b : Int) (l : List Int) : Prop := ∀ x ∈ l, a ≤ x ∧ x ≤ b
theorem Bd.getD {a b : Int} {l : List Int} (h : Bd a b l) {k : Nat} (hk : k < l.length) : a ≤ l.getD k 0 ∧ l.getD k 0 ≤ b := by
  simp only [List.getD, List.getElem?_eq_getElem hk, Option.getD_some]
  exact h _ (List.getElem_mem _)
theorem Bd.take {a b : Int} {l : List Int} (h : Bd a b l) (k : Nat) : Bd a b (l.take k) := fun x hx => h x (List.mem_of_mem_take hx)
theorem Bd.drop {a b : Int} {l : List Int} (h : Bd a b l) (k : Nat) : Bd a b (l.drop k) := fun x hx => h x (List.mem_of_mem_drop hx)
theorem sum_bd {a b : Int} : ∀ (l : List Int), Bd a b l → a * l.length ≤ l.sum ∧ l.sum ≤ b * l.length
  | [], _ => by simp
  | x :: r, h => by
    have h1 := h x (by simp)
    have h2 := sum_bd r fun y hy => h y (by simp [hy])
    simp only [List.sum_cons, List.length_cons]
    have e1 : a * ((r.length + 1 : Nat) : Int) = a * r.length + a := by rw [Int.natCast_add, Int.mul_add]; simp
    have e2 : b * ((r.length + 1 : Nat) : Int) = b * r.length + b := by rw [Int.natCast_add, Int.mul_add]; simp
    omega
theorem sum_take_succ (l : List Int) (k : Nat) (h : k < l.length) : (l.take (k + 1)).sum = (l.take k).sum + l.getD k 0 := by
  rw [List.take_succ_eq_append_getElem h, List.sum_append]
  simp [List.getD, List.getElem?_eq_getElem h]

--@tbl sum = impl.sum
def sum_F : List SV → Heap → Option (Prop × SV)
  | [.slice b off len _], H => match hget H b with
    | some (.ints L _) => some (off + len ≤ L.length ∧ len ≤ 1000 ∧ Bd (-1000000) 1000000 ((L.drop off).take len), .int ((L.drop off).take len).sum)
    | _ => none
  | _, _ => none
theorem one_block {P : Program} {f : FuncId} {args : List SV} {o : SObj} {r : SV} {H : Heap} {b : Nat} (h : PureH P f args [(0, o)] r) (hb : hget H b = some o) (ho : o.ren (fun _ => b) = o) (hr : ∀ n, r.wf n) : PureH P f (renL (fun _ => b) args) H r :=
  h.sub (fun _ => b) (fun j o' hj => by
    rw [hget_cons] at hj
    split at hj
    · cases hj; exact ⟨by rw [ho]; exact hb, fun _ => by omega, by simp [*]⟩
    · cases hj) (fun a ha c hc _ => by simp at ha hc; omega) hr
/-! Arrangements. -/
def arrN : Nat → Int × Int → Int × Int
  | 0, s => s
  | k + 1, s => (IntKind.i64.wrap ((IntKind.i64.wrap ((arrN k s).1 * ((arrN k s).2 + 1))).tdiv (k + 1)), (arrN k s).2 + 1)
def arrL : List Int → Int × Int → Int × Int
  | [], s => s
  | n :: r, s => arrL r (arrN n.toNat s)
def arrF (l : List Int) : Int := (arrL l (1, 0)).1
theorem arrN_snd : ∀ (k : Nat) (s : Int × Int), (arrN k s).2 = s.2 + k
  | 0, s => by simp [arrN]
  | k + 1, s => by simp only [arrN]; rw [arrN_snd k s]; omega
theorem arrL_append : ∀ (l m : List Int) (s : Int × Int), arrL (l ++ m) s = arrL m (arrL l s)
  | [], m, s => rfl
  | n :: r, m, s => by simp only [List.cons_append, arrL]; exact arrL_append r m _
theorem arrL_take_succ (l : List Int) (k : Nat) (h : k < l.length) (s : Int × Int) : arrL (l.take (k + 1)) s = arrN (l.getD k 0).toNat (arrL (l.take k) s) := by
  rw [List.take_succ_eq_append_getElem h, arrL_append]
  simp [arrL, List.getD, List.getElem?_eq_getElem h]
theorem arrL_snd (m : Int) : ∀ (l : List Int) (s : Int × Int), Bd 0 m l → s.2 ≤ (arrL l s).2 ∧ (arrL l s).2 ≤ s.2 + m * l.length
  | [], s, _ => by simp [arrL]
  | n :: r, s, h => by
    have h1 := h n (by simp)
    have h2 := arrL_snd m r (arrN n.toNat s) fun y hy => h y (by simp [hy])
    rw [arrN_snd] at h2
    simp only [arrL, List.length_cons]
    have e1 : m * ((r.length + 1 : Nat) : Int) = m * r.length + m := by rw [Int.natCast_add, Int.mul_add]; simp
    omega

--@tbl arrangements = impl.arrangements
--@tbl l7Ways = spec.l7Ways
end Go.Proofs.Ytnlbljikbonioaa
