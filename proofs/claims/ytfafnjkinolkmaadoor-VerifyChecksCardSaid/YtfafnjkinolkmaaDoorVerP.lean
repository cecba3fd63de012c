/- What the check of a program answers, in plain Lean. No condition; no run. -/
import Derived.Test.YtfafnjkinolkmaaDoorFlowM
namespace Go.Proofs.YtfafnjkinolkmaaDoor
open Go.RowKit

/-- May the instruction at a place of a behavior not be done? -/
noncomputable def badI (l : List Ins) (i : Nat) : Bool := match (flowL l)[i]?, l[i]? with
  | some (x :: xs), some o => !mayB (x :: xs) o
  | _, _ => false
noncomputable def badL (l : List Ins) : Option Nat := (List.range l.length).find? (badI l)
noncomputable def badK : Nat → List (List Ins) → Option (Nat × Nat)
  | _, [] => none
  | k, l :: r => match badL l with
    | some i => some (k, i)
    | none => badK (k + 1) r
/-- Its answer: the behavior, the place, the error. -/
noncomputable def verP (p : List (List Ins)) : Int × Int × Int :=
  if progF p ≠ 0 then (0, 0, progF p) else match badK 0 p with
    | some (k, i) => (k, i, 9)
    | none => (0, 0, 0)
theorem badL_none {l : List Ins} (h : ∀ i, i < l.length → badI l i = false) : badL l = none := by
  unfold badL
  rw [List.find?_eq_none]
  intro i hi
  simp at hi
  simp [h i hi]
theorem badL_some {l : List Ins} {i : Nat} (hi : i < l.length) (h : badI l i = true) (hb : ∀ j, j < i → badI l j = false) : badL l = some i := by
  unfold badL
  rw [List.find?_range_eq_some]
  exact ⟨h, by simpa using hi, fun j hj => by simp [hb j hj]⟩
theorem badK_none : ∀ {p : List (List Ins)} {k : Nat}, (∀ l ∈ p, badL l = none) → badK k p = none
  | [], _, _ => rfl
  | l :: r, k, h => by
    unfold badK
    rw [h l (by simp)]
    exact badK_none (fun l hl => h l (by simp [hl]))
theorem badK_some : ∀ {p : List (List Ins)} {k n i : Nat} {l : List Ins}, p[n]? = some l → badL l = some i → (∀ j l', j < n → p[j]? = some l' → badL l' = none) → badK k p = some (k + n, i)
  | [], _, _, _, _, h, _, _ => by simp at h
  | l :: r, k, 0, i, l', h, hb, _ => by
    simp at h; subst h
    unfold badK
    rw [hb]; rfl
  | l :: r, k, n + 1, i, l', h, hb, hj => by
    unfold badK
    rw [hj 0 l (by omega) rfl]
    have := badK_some (k := k + 1) (n := n) (by simpa using h) hb (fun j l2 hjn h2 => hj (j + 1) l2 (by omega) (by simpa using h2))
    show badK (k + 1) r = _
    rw [this, show k + 1 + n = k + (n + 1) by omega]
theorem verP_bad {p : List (List Ins)} (h : progF p ≠ 0) : verP p = (0, 0, progF p) := if_pos h
theorem verP_ok {p : List (List Ins)} (h : progF p = 0) (hb : ∀ l ∈ p, badL l = none) : verP p = (0, 0, 0) := by
  unfold verP
  rw [if_neg (by simp [h]), badK_none hb]
theorem verP_no {p : List (List Ins)} {n i : Nat} {l : List Ins} (h : progF p = 0) (hn : p[n]? = some l) (hb : badL l = some i) (hj : ∀ j l', j < n → p[j]? = some l' → badL l' = none) : verP p = ((n : Int), (i : Int), 9) := by
  unfold verP
  rw [if_neg (by simp [h]), badK_some (k := 0) hn hb hj, Nat.zero_add]
theorem badI_none {l : List Ins} {i : Nat} (h : (flowL l)[i]? = some []) : badI l i = false := by
  unfold badI
  rw [h]
theorem badI_some {l : List Ins} {i : Nat} {x : Int} {xs : List Int} {o : Ins} (h : (flowL l)[i]? = some (x :: xs)) (ho : l[i]? = some o) : badI l i = !mayB (x :: xs) o := by
  unfold badI
  rw [h, ho]
end Go.Proofs.YtfafnjkinolkmaaDoor
