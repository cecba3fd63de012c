/- Four cells of a block of the call's own are written. No condition. Appends to a row of the call's own, of whatever slice; rows of instructions; slices whose elements are laid in one literal. No condition beside sizes. -/
import Derived.Test.YtabcjdalifhpdaaDoorStB
import Derived.Test.YtabcjdalifhpdaaDoorAppAny
namespace Go.Proofs.YtabcjdalifhpdaaDoor
section
open Go.RowKit
section
variable {B : Nat} {w0 w : World} {R : List Res}
theorem St.put4 (h : St B w0 w R) (i : Nat) (u0 u1 u2 u3 : Value) {b : Nat} {cs : Array Value} {t : TypeId} (hi : R[i]? = some (.blk b cs t)) (hs : cs.size = 4) :
  St B w0 ((((w.setCell ⟨b, 0, none⟩ u0).setCell ⟨b, 1, none⟩ u1).setCell ⟨b, 2, none⟩ u2).setCell ⟨b, 3, none⟩ u3) (R.set i (.blk b #[u0, u1, u2, u3] t)) ∧
   Keeps w R ((((w.setCell ⟨b, 0, none⟩ u0).setCell ⟨b, 1, none⟩ u1).setCell ⟨b, 2, none⟩ u2).setCell ⟨b, 3, none⟩ u3) (R.set i (.blk b #[u0, u1, u2, u3] t)) := by
 have hil : i < R.length := (List.getElem?_eq_some_iff.1 hi).1;obtain ⟨h1, k1⟩ := h.put i 0 u0 hi;obtain ⟨h2, k2⟩ := h1.put i 1 u1 (b := b) (cs := cs.setIfInBounds 0 u0) (t := t) (by simp [hil]);obtain ⟨h3, k3⟩ := h2.put i 2 u2 (b := b) (cs := (cs.setIfInBounds 0 u0).setIfInBounds 1 u1) (t := t) (by simp [hil]);obtain ⟨h4, k4⟩ := h3.put i 3 u3 (b := b) (cs := ((cs.setIfInBounds 0 u0).setIfInBounds 1 u1).setIfInBounds 2 u2) (t := t) (by simp [hil]);have hc : (((cs.setIfInBounds 0 u0).setIfInBounds 1 u1).setIfInBounds 2 u2).setIfInBounds 3 u3 = #[u0, u1, u2, u3] := by
  match cs, hs with
  | ⟨[x, y, z, v]⟩, _ => rfl
 simp only [List.set_set] at h2 k2 h3 k3 h4 k4;rw [hc] at h4 k4;exact ⟨h4, ((k1.trans (by simp) k2).trans (by simp) k3).trans (by simp) k4⟩
end
end
section
open Go.RowKit
section
variable {B : Nat} {w0 w w' : World} {R : List Res}
theorem wpList_append_stx {P : Program} {ops : Array Oper} {rest : List Oper} {o : Oper} {a : Act} {Q : Exit → Act → World → Prop} (hgd : o.guard = none) (s x : Operand) (t : TypeId)
  (ho : o.op = .call { callee := .builtin .append, args := #[s, x], argTypes := #[t, t] }) {e : TypeId} {z : Value} {size bytes : Nat} (ht : P.underlying t = some (.slice e))
  (hinfo : (P.info? e).map (fun i => (i.zero, i.size, i.bytes)) = some (some z, size, bytes)) (hzs : z.cells.size = size) (hsz : 0 < size)
  (h : St B w0 w R) (i : Nat) {base : Nat} {v : Value} {n : Nat} {xs : List Value} (hi : R[i]? = some (.row base e size v n xs)) (hs : a.eval s = v)
  (A : Option Addr) (m c : Nat) (news : List Value) (hx : a.eval x = .slice A m c) (hl : news.length = m * size) (hnews : ∀ ad, A = some ad → ∀ (j : Nat) (u : Value), news[j]? = some u → w.cell? (ad.add j) = some u) (hnil : A = none → m = 0) (h1 : ∀ u ∈ news, u.oneCell' = true)
  (h63 : n + m ≤ maxLen) (hbytes : (n + m) * bytes ≤ 140737488355328) (hbase : base ≤ w.heap.size)
  (hK : ∀ (A' : Option Addr) (c' : Nat) (w' : World), St B w0 w' (R.set i (.row base e size (.slice A' (n + m) c') (n + m) (xs ++ news))) → Keeps w R w' (R.set i (.row base e size (.slice A' (n + m) c') (n + m) (xs ++ news))) → w.heap.size ≤ w'.heap.size →
   wpList P ops Q rest (a.put o.dst (.slice A' (n + m) c')) w') : wpList P ops Q (o :: rest) a w := by
 obtain ⟨i0, hi0, hz0, hz1, hz2⟩ := info_parts hinfo
 cases A with
 | some ad =>
  refine wpList_append_own_at w hgd s x t ho base e i0 z size bytes ht hi0 hz0 hz1 hz2 hzs hsz v n xs hs (h.own i hi) ad m c news hx hl (hnews ad rfl) h1 h63 hbytes hbase (fun v' w' hown hg _ hl' => ?_);obtain ⟨A', c', rfl⟩ := own_form hown;obtain ⟨hT, hk⟩ := h.rowGrown i hi hg hown hl';exact hK A' c' w' hT hk hg.size
 | none =>
  have hm := hnil rfl;subst hm;have hn : news = [] := List.eq_nil_of_length_eq_zero (by rw [hl]; simp);subst hn;refine wpList_plain hgd fun K hK' => ?_;obtain ⟨B', cb, rfl⟩ := own_form (h.own i hi);have hnc : n ≤ cb := by
   rcases (h.own i hi).2 with ⟨h, h0⟩ | ⟨g, cap, _, h, _, _, h2, _⟩
   ·cases h; omega
   ·cases h; exact h2
  have hrun := run_append_none (P := P) w t o.type e i0 ht hi0 B' n cb c hnc;unfold Oper.wp;simp [execOp, ho, resolve, invoke, builtin, hs, hx, hrun, Result.andThen]
  have hset : R.set i (.row base e size (.slice B' n cb) n xs) = R := by
   obtain ⟨hl0, he⟩ := List.getElem?_eq_some_iff.1 hi;rw [← he, List.set_getElem_self]
  have := hK B' cb w (by simpa [hset] using h) (by simpa [hset] using Keeps.refl) (Nat.le_refl _);simp only [Nat.add_zero] at this;exact hK' _ _ this
def nc (x : Ins) : List Value := [.int .i64 x.op, .int .i64 x.a, .int .i64 x.b, .int .i64 x.n]
def ncs (l : List Ins) : List (List Value) := l.map nc
theorem ncs_append (l m : List Ins) : cat (ncs l) ++ cat (ncs m) = cat (ncs (l ++ m)) := by simp [ncs, cat]
theorem ncs_len (l : List Ins) : (cat (ncs l)).length = l.length * 4 := by
 induction l with
 | nil => rfl
 | cons x l ih => simp [cat, ncs, nc] at *; omega
theorem ncs_one (l : List Ins) : ∀ u ∈ cat (ncs l), u.oneCell' = true := fun u hu => by
 obtain ⟨cs, hc, h⟩ := List.mem_flatten.1 hu;obtain ⟨x, _, rfl⟩ := List.mem_map.1 hc;simp [nc] at h
 rcases h with rfl | rfl | rfl | rfl <;> rfl
theorem nc_one (x : Ins) : ∀ u ∈ nc x, u.oneCell' = true := fun u hu => by
 simp [nc] at hu
 rcases hu with rfl | rfl | rfl | rfl <;> rfl
theorem ncs_held {S : Nat → Prop} (l : List Ins) : Held insE w S (ncs l) l := ⟨by simp [ncs], fun i x cs hx hc => by
 simp [ncs, hx] at hc
 subst hc;exact ⟨rfl, rfl⟩⟩
theorem held_ncs {S : Nat → Prop} {css : List (List Value)} {xs : List Ins} (h : Held insE w S css xs) : css = ncs xs := by
 apply List.ext_getElem?
 intro i;rcases Nat.lt_or_ge i xs.length with hl | hg
 ·have hx : xs[i]? = some xs[i] := List.getElem?_eq_getElem hl;have hc : css[i]? = some (css[i]'(by rw [h.len]; exact hl)) := List.getElem?_eq_getElem _;have hr : css[i]'(by rw [h.len]; exact hl) = nc xs[i] := (h.each i _ _ hx hc).2;rw [hc, hr, ncs, List.getElem?_map, hx];rfl
 ·rw [List.getElem?_eq_none (by rw [h.len]; exact hg), List.getElem?_eq_none (by simpa [ncs] using hg)]
theorem rdN_cells {S : Nat → Prop} {A : Option Addr} {n c : Nat} {xs : List Ins} (h : RdSl insE w S (.slice A n c) xs) : ∀ ad, A = some ad → ∀ (j : Nat) (u : Value), (cat (ncs xs))[j]? = some u → w.cell? (ad.add j) = some u := fun ad hA j u hu => by
 obtain ⟨css, hH, hc⟩ := h.held;obtain rfl := held_ncs hH;exact hc ad hA j u hu
theorem rd_none {α : Type} {E : El α} {S : Nat → Prop} {A : Option Addr} {n c : Nat} {xs : List α} (h : RdSl E w S (.slice A n c) xs) (hA : A = none) : n = 0 := by
 obtain ⟨A', c', hv, h1, _, _, h4⟩ := h
 cases hv
 cases xs with
 | nil => rfl
 | cons x xs =>
  obtain ⟨b, o, hb, _⟩ := h4 (by simp);rw [hA] at hb
  cases hb
theorem rd_lit {α : Type} {E : El α} {S : Nat → Prop} {b : Nat} {cs : Array Value} {t : TypeId} {fr : Nat × Nat} {css : List (List Value)} {xs : List α} (hb : w.heap[b]? = some (.cells cs t fr)) (hS : S b) (hH : Held E w S css xs) (hc : cs.toList = cat css) (hs : xs.length * E.bytes ≤ 140737488355328) (hm : xs.length ≤ maxLen) (n : Nat) (hn : n = xs.length) :
  RdSl E w S (.slice (some ⟨b, 0, none⟩) n n) xs := by
 subst hn;refine ⟨_, _, rfl, Nat.le_refl _, hm, hs, fun _ => ⟨b, 0, rfl, hS, fun i x hx => ?_⟩⟩;have hil : i < xs.length := (List.getElem?_eq_some_iff.1 hx).1;have hcs : css[i]? = some (css[i]'(by rw [hH.len]; exact hil)) := List.getElem?_eq_getElem _;obtain ⟨h1, h2⟩ := hH.each i x _ hx hcs;refine ⟨_, h1, h2, fun j u hu => ?_⟩;have := flat_at hH.size hcs hu;simp only [World.cell?, hb, Nat.zero_add];rw [← Array.getElem?_toList, hc];exact this
theorem Held.cons {α : Type} {E : El α} {S : Nat → Prop} {cs : List Value} {css : List (List Value)} {x : α} {xs : List α} (hl : cs.length = E.size) (hr : E.rd w S cs x) (h : Held E w S css xs) : Held E w S (cs :: css) (x :: xs) :=
 ⟨by simp [h.len], fun i y ds hy hd => by
  cases i with
  | zero => simp at hy hd; subst hy; subst hd; exact ⟨hl, hr⟩
  | succ i => exact h.each i y ds (by simpa using hy) (by simpa using hd)⟩
end
end
end Go.Proofs.YtabcjdalifhpdaaDoor
