/- Plain laws of a heap that may be and whose objects are all alive; references to all its objects, and how a row holds them. No condition. -/
import Derived.Test.YtfafnjkinolkmaaLoc
import Derived.Test.YtfafnjkinolkmaaAlloc
import Derived.Test.YtfafnjkinolkmaaSet
import Derived.Test.YtfafnjkinolkmaaLedTo
namespace Go.Proofs.Ytfafnjkinolkmaa
open Go.RowKit

/-- References to the first objects. -/
def refsTo (n : Nat) : List V := (List.range n).map fun (i : Nat) => ⟨2, (i : Int)⟩
def rc (n : Nat) : List (List Value) := (List.range n).map fun (i : Nat) => [.int .i64 2, .int .i64 (i : Int)]
theorem refsTo_len (n : Nat) : (refsTo n).length = n := by simp [refsTo]
theorem rc_len (n : Nat) : (rc n).length = n := by simp [rc]
theorem rc_succ (n : Nat) : (rc (n + 1)).flatten = (rc n).flatten ++ [.int .i64 2, .int .i64 (n : Int)] := by simp [rc, List.range_succ]
theorem refsTo_at {n i : Nat} (h : i < n) : (refsTo n)[i]? = some ⟨2, (i : Int)⟩ := by simp [refsTo, h]
theorem own_refs {w : World} {base n : Nat} {B : Option Addr} {d : Nat} (h : w.ownsRow base 31 2 (.slice B n d) n (rc n).flatten) (hn : n * 16 ≤ 140737488355328) : OwnSl vE w (fun _ => False) base 31 (.slice B n d) (refsTo n) :=
  ⟨rc n, ⟨by rw [rc_len, refsTo_len], fun i x cs hx hc => by
    have hi : i < n := by have := (List.getElem?_eq_some_iff.1 hx).1; rwa [refsTo_len] at this
    rw [refsTo_at hi] at hx
    simp [rc, hi] at hc hx
    subst hx hc
    exact ⟨rfl, rfl⟩⟩, by rw [refsTo_len]; exact h, by rw [refsTo_len]; exact hn⟩

/-- A heap that may be, whose objects are all alive. -/
structure GoodH (m : Int) (os : List Ob) : Prop where
  may : hpB ⟨m, os⟩ [] = true
  alive : ∀ o ∈ os, o.dead = false
theorem valB_mono {n n' : Nat} (h : n ≤ n') {v : V} (hv : valB n v = true) : valB n' v = true := by
  unfold valB at *
  rcases (by omega : v.k = 0 ∨ v.k = 1 ∨ v.k = 2 ∨ (v.k ≠ 0 ∧ v.k ≠ 1 ∧ v.k ≠ 2)) with hk | hk | hk | ⟨hk, hk1, hk2⟩ <;> simp_all
  omega
theorem GoodH.nil {m : Int} (h : 0 ≤ m ∧ m ≤ 60) : GoodH m [] := ⟨by simp [hpB, limB, h.1, h.2], by simp⟩
theorem GoodH.lim {m : Int} {os : List Ob} (h : GoodH m os) : (os.length : Int) ≤ m ∧ m ≤ 60 := by
  have := h.may
  simp [hpB, limB] at this
  exact ⟨this.1.2, this.1.1.2⟩
theorem GoodH.more {m : Int} {os : List Ob} (h : GoodH m os) {f : Int} (he : allocE ⟨m, os⟩ f = 0) : GoodH m (os ++ [zeroOb f.toNat]) := by
  have hm := h.may
  unfold allocE at he
  rw [if_neg (by simp [hm])] at he
  split at he
  · cases he
  split at he
  · cases he
  rename_i hf hl
  have hl' : (os.length : Int) ≠ m := hl
  simp [hpB, limB] at hm
  obtain ⟨⟨⟨h1, h2⟩, h3⟩, h4⟩ := hm
  have hz : obB (os.length + 1) (zeroOb f.toNat) = true := by
    simp [obB, zeroOb, valB]
    omega
  have ho : ∀ o ∈ os, obB (os.length + 1) o = true := fun o ho => by
    have := h4 o ho
    simp [obB] at this ⊢
    exact ⟨⟨this.1.1, fun x hx => valB_mono (by omega) (this.1.2 x hx)⟩, this.2⟩
  constructor
  · simp [hpB, limB]
    refine ⟨⟨⟨h1, h2⟩, by omega⟩, ho, hz⟩
  · intro o ho
    rcases List.mem_append.1 ho with ho | ho
    · exact h.alive o ho
    · simp at ho; subst ho; rfl
theorem GoodH.set {m : Int} {os : List Ob} (h : GoodH m os) {v x : V} {f : Int} (he : setE ⟨m, os⟩ v f x = 0) : GoodH m (setOs os v.n.toNat f.toNat x) := by
  unfold setE at he
  split at he
  · cases he
  rename_i hb
  have hm := h.may
  simp [hpB, limB] at hm hb ⊢
  obtain ⟨⟨⟨h1, h2⟩, h3⟩, h4⟩ := hm
  have hx : valB os.length x = true := hb.2.2.2.2.2
  have hall : ∀ o ∈ setOs os v.n.toNat f.toNat x, obB os.length o = true ∧ o.dead = false := by
    intro o ho
    obtain ⟨i, hi⟩ := List.getElem?_of_mem ho
    rw [setOs_at] at hi
    split at hi
    · cases hq : os[i]? with
      | none => rw [hq] at hi; cases hi
      | some p =>
        rw [hq] at hi
        simp at hi
        subst hi
        have hp := List.mem_of_getElem? hq
        have hpo := h4 p hp
        have hd := h.alive p hp
        refine ⟨?_, hd⟩
        simp [obB] at hpo ⊢
        refine ⟨⟨hpo.1.1, fun y hy => ?_⟩, hpo.2⟩
        rcases List.mem_or_eq_of_mem_set hy with hy | rfl
        · exact hpo.1.2 y hy
        · exact hx
    · have ho := List.mem_of_getElem? hi
      exact ⟨h4 o ho, h.alive o ho⟩
  refine ⟨?_, fun o ho => (hall o ho).2⟩
  simp [hpB, limB, setOs_len]
  exact ⟨⟨⟨h1, h2⟩, h3⟩, fun o ho => (hall o ho).1⟩
end Go.Proofs.Ytfafnjkinolkmaa
