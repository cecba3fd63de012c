/- The blocks of a call's own variables: what each holds, from call to call. No condition. -/
import Derived.Test.YtabcjdalifhpdaaDoorCloneH
import Derived.Test.YtabcjdalifhpdaaDoorRegion
namespace Go.Proofs.YtabcjdalifhpdaaDoor
open Go.RowKit
def Locs (w : World) (l : List (Nat × Array Value × TypeId)) : Prop := ∀ e ∈ l, w.heap[e.1]? = some (.cells e.2.1 e.2.2 (0, 0))
def LocRules (w : World) : List (Nat × Array Value × TypeId) → Prop
 | [] => True
 | e :: r => (∀ i : Nat, w.cell? ⟨e.1, i, none⟩ = e.2.1[i]?) ∧ (∀ i : Nat, w.frozen? ⟨e.1, i, none⟩ = false) ∧ LocRules w r
section
variable {w w' w2 : World} {l : List (Nat × Array Value × TypeId)}
theorem lt_of_blk {b : Nat} {o : Obj} (h : w.heap[b]? = some o) : b < w.heap.size := by
 rcases Nat.lt_or_ge b w.heap.size with hl | hge
 ·exact hl
 ·rw [Array.getElem?_eq_none hge] at h; cases h
theorem Locs.nil : Locs w [] := fun _ h => by cases h
theorem Locs.new (h : Locs w l) {n : Nat} {cs : Array Value} {t : TypeId} (hn : n = w.heap.size) : Locs (w.alloc (.cells cs t)) ((n, cs, t) :: l) := fun e he => by
 rcases List.mem_cons.1 he with rfl | he
 ·exact blk_at hn
 ·exact blk_old (h e he)
theorem Locs.after (h : Locs w l) (hb : Below w.heap.size w w') : Locs w' l := fun e he => (hb.block _ (lt_of_blk (h e he))).trans (h e he)
theorem Locs.grown (h : Locs w l) {row : Option Nat} (hg : w.grownBy w' row) (hr : ∀ e ∈ l, row ≠ some e.1) : Locs w' l := fun e he => (hg.block _ (lt_of_blk (h e he)) (hr e he).symm).trans (h e he)
theorem Locs.alloc (h : Locs w l) (o : Obj) : Locs (w.alloc o) l := fun e he => blk_old (h e he)
theorem Locs.drew (h : Locs w l) : Locs w.drew l := h
theorem Locs.keep (h : Locs w l) (hk : ∀ e ∈ l, w'.heap[e.1]? = w.heap[e.1]?) : Locs w' l := fun e he => (hk e he).trans (h e he)
theorem Locs.far (h : Locs w l) {a : Addr} (ha : ∀ e ∈ l, e.1 ≠ a.block) {u : Value} : Locs (w.setCell a u) l := fun e he => (Below.heap_setCell _ _ _ _ (ha e he)).trans (h e he)
theorem Locs.tail {e : Nat × Array Value × TypeId} (h : Locs w (e :: l)) : Locs w l := fun x hx => h x (List.mem_cons_of_mem _ hx)
theorem Locs.head {e : Nat × Array Value × TypeId} (h : Locs w (e :: l)) : w.heap[e.1]? = some (.cells e.2.1 e.2.2 (0, 0)) := h e (List.mem_cons_self ..)
theorem Locs.cons {e : Nat × Array Value × TypeId} (h0 : w.heap[e.1]? = some (.cells e.2.1 e.2.2 (0, 0))) (h : Locs w l) : Locs w (e :: l) := fun x hx => by
 rcases List.mem_cons.1 hx with rfl | hx
 ·exact h0
 ·exact h x hx
theorem Locs.keep2 {a b c : Nat × Array Value × TypeId} (h : Locs w [a, b, c]) : Locs w [a, b] := fun x hx => h x (by simp at hx ⊢; rcases hx with rfl | rfl <;> simp)
theorem Locs.at_ (h : Locs w l) (i : Nat) {e : Nat × Array Value × TypeId} (he : l[i]? = some e) : w.heap[e.1]? = some (.cells e.2.1 e.2.2 (0, 0)) := h e (List.mem_of_getElem? he)
theorem Locs.lt (h : Locs w l) (i : Nat) {e : Nat × Array Value × TypeId} (he : l[i]? = some e) : e.1 < w.heap.size := lt_of_blk (h.at_ i he)
theorem Locs.set (h : Locs w l) (i : Nat) {b : Nat} {cs : Array Value} {t : TypeId} (he : l[i]? = some (b, cs, t)) (hd : ∀ (j : Nat) (e : Nat × Array Value × TypeId), l[j]? = some e → j ≠ i → e.1 ≠ b) (k : Nat) (u : Value) :
  Locs (w.setCell ⟨b, k, none⟩ u) (l.set i (b, cs.setIfInBounds k u, t)) := fun e hm => by
 obtain ⟨j, hj⟩ := List.getElem?_of_mem hm;rw [List.getElem?_set] at hj;by_cases hij : i = j
 ·subst hij;have hl : i < l.length := (List.getElem?_eq_some_iff.1 he).1;simp [hl] at hj
  subst hj;exact blk_set (h.at_ i he) u
 ·simp [hij] at hj
  exact (Below.heap_setCell _ _ _ _ (hd j e hj (Ne.symm hij))).trans (h.at_ j hj)
theorem Locs.put (h : Locs w l) (i : Nat) {b : Nat} {cs : Array Value} {t : TypeId} (k : Nat) (u : Value) (he : l[i]? = some (b, cs, t)) (hd : (l.map (·.1)).Nodup) :
  Locs (w.setCell ⟨b, k, none⟩ u) (l.set i (b, cs.setIfInBounds k u, t)) := by
 refine h.set i he (fun j e hj hne heq => ?_) k u;have h1 : (l.map (·.1))[j]? = some e.1 := (by rw [List.getElem?_map, hj]; rfl);have h2 : (l.map (·.1))[i]? = some b := (by rw [List.getElem?_map, he]; rfl);obtain ⟨l1, g1⟩ := List.getElem?_eq_some_iff.1 h1;obtain ⟨l2, g2⟩ := List.getElem?_eq_some_iff.1 h2;exact hne ((List.getElem_inj hd).1 (by rw [g1, g2, heq]))
theorem Locs.set2 (h : Locs w l) (i : Nat) {b : Nat} {cs : Array Value} {t : TypeId} (u v : Value) (he : l[i]? = some (b, cs, t)) (hs : cs.size = 2) (hd : (l.map (·.1)).Nodup) :
  Locs ((w.setCell ⟨b, 0, none⟩ u).setCell ⟨b, 1, none⟩ v) (l.set i (b, #[u, v], t)) := by
 have hl : i < l.length := (List.getElem?_eq_some_iff.1 he).1;have hd' : ∀ (j : Nat) (e : Nat × Array Value × TypeId), l[j]? = some e → j ≠ i → e.1 ≠ b := fun j e hj hne heq => by
  have h1 : (l.map (·.1))[j]? = some e.1 := (by rw [List.getElem?_map, hj]; rfl);have h2 : (l.map (·.1))[i]? = some b := (by rw [List.getElem?_map, he]; rfl);obtain ⟨l1, g1⟩ := List.getElem?_eq_some_iff.1 h1;obtain ⟨l2, g2⟩ := List.getElem?_eq_some_iff.1 h2;exact hne ((List.getElem_inj hd).1 (by rw [g1, g2, heq]))
 have h1 := h.set i he hd' 0 u;have h2 := h1.set i (b := b) (cs := cs.setIfInBounds 0 u) (t := t) (by simp [hl]) (fun j e hj hne => by
  rw [List.getElem?_set_ne (Ne.symm hne)] at hj;exact hd' j e hj hne) 1 v
 rw [List.set_set] at h2;have hc : (cs.setIfInBounds 0 u).setIfInBounds 1 v = #[u, v] := by
  match cs, hs with
  | ⟨[x, y]⟩, _ => rfl
 rw [hc] at h2;exact h2
theorem Locs.rules : ∀ {l : List (Nat × Array Value × TypeId)}, Locs w l → LocRules w l
 | [], _ => trivial
 | e :: r, h => ⟨fun i => by
   have := h e (List.mem_cons_self ..);simp [World.cell?, this], fun i => by
   have := h e (List.mem_cons_self ..);simp [World.frozen?, this], Locs.rules (fun x hx => h x (List.mem_cons_of_mem _ hx))⟩
theorem below_set2 {n b : Nat} {x y : Value} (h : Below n w w') (hb : n ≤ b) {i j : Nat} : Below n w ((w'.setCell ⟨b, i, none⟩ x).setCell ⟨b, j, none⟩ y) := (h.setCell hb _).setCell hb _
theorem below_after (h : Below w.heap.size w w') (h' : Below w'.heap.size w' w2) : Below w.heap.size w w2 := h.trans (h'.mono h.size)
theorem RdSl.new {α : Type} {E : El α} {xs : List α} {v : Value} {n : Nat} (h : RdSl E w (fun b => n ≤ b) v xs) (hs : 0 < E.size) {m : Nat} (hn : m ≤ n) : RdSl E w (fun b => m ≤ b) v xs :=
 h.keep hs (fun _ _ hS => ⟨Nat.le_trans hn hS, rfl⟩)
end
def RdH (w : World) (base : Nat) (v : Value) (h : Hp) : Prop := ∃ A c, v = .agg #[.int .i64 h.most, .slice A h.objs.length c] ∧ RdSl obE w (fun b => base ≤ b) (.slice A h.objs.length c) h.objs
theorem RdH.below {w w' : World} {base : Nat} {v : Value} {h : Hp} (hr : RdH w base v h) (hb : Below w.heap.size w w') : RdH w' base v h :=
 let ⟨A, c, hv, hr⟩ := hr
 ⟨A, c, hv, hr.below (by decide) hb⟩
theorem RdH.of_sep {w : World} {S : Nat → Prop} {base n : Nat} {m : Int} {A : Option Addr} {c : Nat} {os : List Ob} {vs : List Value} (h : SepTo w S base (.slice A os.length c) os vs os.length) (hs : os.length * 32 ≤ 140737488355328) (hn : n ≤ base) :
  RdH w n (.agg #[.int .i64 m, .slice A os.length c]) ⟨m, os⟩ := ⟨A, c, rfl, (h.rd hs).new (by decide) hn⟩
theorem RdH.zero {w : World} {n : Nat} : RdH w n (.agg #[.int .i64 0, .slice none 0 0]) ⟨0, []⟩ :=
 ⟨none, 0, rfl, none, 0, rfl, Nat.le_refl _, Nat.zero_le _, by simp, fun h => absurd rfl h⟩
end Go.Proofs.YtabcjdalifhpdaaDoor
