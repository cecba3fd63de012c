/- Plain laws of what a transfer answers: places of what is carried, and what is there while it is carried. No condition; no run. -/
import Derived.Test.YtfafnjkinolkmaaLedP
import Derived.Test.YtfafnjkinolkmaaThere
namespace Go.Proofs.Ytfafnjkinolkmaa
open Go.RowKit

/-- The place of a number in a list, behind n; 0: it is not there. -/
def plM (n : Nat) (l : List Int) (x : Int) : Int := if x ∈ l then (n : Int) + (l.idxOf x : Int) else 0
theorem plM_snoc {n : Nat} {l : List Int} {x : Int} (h : x ∉ l) (i : Int) : plM n (l ++ [x]) i = if i = x then ((n + l.length : Nat) : Int) else plM n l i := by
  unfold plM
  by_cases hi : i = x
  · subst hi
    simp [List.idxOf_append, h]
  · by_cases hm : i ∈ l
    · simp [hi, hm, List.idxOf_append]
    · simp [hi, hm]
theorem plM_at {n : Nat} {l : List Int} (hn : l.Nodup) {k : Nat} {x : Int} (hk : l[k]? = some x) : plM n l x = ((n + k : Nat) : Int) := by
  obtain ⟨hl, rfl⟩ := List.getElem?_eq_some_iff.1 hk
  unfold plM
  rw [if_pos (List.getElem_mem hl), hn.idxOf_getElem k hl]
  omega
theorem take_nodup {l : List Int} (hn : l.Nodup) {k : Nat} {x : Int} (hk : l[k]? = some x) : x ∉ l.take k := by
  obtain ⟨hl, rfl⟩ := List.getElem?_eq_some_iff.1 hk
  have h1 : l.take (k + 1) = l.take k ++ [l[k]] := by rw [List.take_add_one, List.getElem?_eq_getElem hl]; rfl
  have h2 : (l.take (k + 1)).Nodup := hn.sublist (List.take_sublist ..)
  rw [h1] at h2
  have := (List.nodup_append.1 h2).2.2
  exact fun h => this _ h _ (by simp) rfl
theorem plM_take {n : Nat} {l : List Int} (hn : l.Nodup) {k : Nat} {x : Int} (hk : l[k]? = some x) (i : Int) : plM n (l.take (k + 1)) i = if i = x then ((n + k : Nat) : Int) else plM n (l.take k) i := by
  obtain ⟨hl, he⟩ := List.getElem?_eq_some_iff.1 hk
  have h1 : l.take (k + 1) = l.take k ++ [x] := by rw [List.take_add_one, hk]; rfl
  rw [h1, plM_snoc (take_nodup hn hk)]
  simp [Nat.min_eq_left (Nat.le_of_lt hl)]

/-- What has been carried, up to object k; the others are there, and empty. -/
def partC (fr tt : List Ob) (l : List Int) (k : Nat) : List Ob :=
  tt ++ ((l.take k).map (fun i => ⟨(fieldsOf fr i).map (newV (plM tt.length l)), false⟩) ++ List.replicate (l.length - k) ⟨[], false⟩)
theorem partC_zero (fr tt : List Ob) (l : List Int) : partC fr tt l 0 = tt ++ List.replicate l.length ⟨[], false⟩ := by simp [partC]
theorem partC_len {fr tt : List Ob} {l : List Int} {k : Nat} (h : k ≤ l.length) : (partC fr tt l k).length = tt.length + l.length := by
  simp [partC, Nat.min_eq_left h]; omega
theorem partC_set {fr tt : List Ob} {l : List Int} {k : Nat} {x : Int} (hk : l[k]? = some x) :
    (partC fr tt l k).set (tt.length + k) ⟨(fieldsOf fr x).map (newV (plM tt.length l)), false⟩ = partC fr tt l (k + 1) := by
  obtain ⟨hl, he⟩ := List.getElem?_eq_some_iff.1 hk
  unfold partC
  rw [List.set_append_right _ _ (by omega), List.take_add_one, hk]
  have h1 : tt.length + k - tt.length = k := by omega
  have h3 : l.length - k = (l.length - (k + 1)) + 1 := by omega
  rw [h1, List.set_append_right _ _ (by simp [Nat.min_eq_left (Nat.le_of_lt hl)])]
  simp only [List.length_map, List.length_take, Nat.min_eq_left (Nat.le_of_lt hl), Nat.sub_self]
  rw [h3, List.replicate_succ, List.set_cons_zero]
  simp
theorem partC_all {fr tt : List Ob} {l : List Int} : partC fr tt l l.length = tt ++ l.map (fun i => ⟨(fieldsOf fr i).map (newV (plM tt.length l)), false⟩) := by simp [partC]

/-- Objects of a list are moved away. -/
def movedL (os : List Ob) (l : List Int) : List Ob := os.mapIdx (fun i o => if (i : Int) ∈ l then ⟨[], true⟩ else o)
theorem movedL_nil (os : List Ob) : movedL os [] = os := by
  apply List.ext_getElem?
  intro i
  simp [movedL, List.getElem?_mapIdx]
theorem movedL_len (os : List Ob) (l : List Int) : (movedL os l).length = os.length := by simp [movedL]
theorem movedL_take {os : List Ob} {l : List Int} {k : Nat} {x : Int} (hk : l[k]? = some x) (h0 : 0 ≤ x) : (movedL os (l.take k)).set x.toNat ⟨[], true⟩ = movedL os (l.take (k + 1)) := by
  apply List.ext_getElem?
  intro i
  rw [List.take_add_one, hk, List.getElem?_set]
  simp only [movedL, List.getElem?_mapIdx, List.length_mapIdx, Option.toList_some, List.mem_append, List.mem_singleton]
  by_cases hi : x.toNat = i
  · subst hi
    have hx : ((x.toNat : Nat) : Int) = x := by omega
    by_cases hl : x.toNat < os.length
    · simp [hx, List.getElem?_eq_getElem hl]
      omega
    · simp [hl, List.getElem?_eq_none (Nat.le_of_not_lt hl)]
  · have hx : ¬ (i : Int) = x := by omega
    simp [hi, hx]
end Go.Proofs.Ytfafnjkinolkmaa
