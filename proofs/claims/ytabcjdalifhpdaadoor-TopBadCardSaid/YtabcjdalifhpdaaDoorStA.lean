/- More of a call's own things: lists of values that a contract hands back, sorted rows, rows of other elements. No condition. -/
import Derived.Test.YtabcjdalifhpdaaDoorSt
import Derived.Test.YtabcjdalifhpdaaDoorCloneH
namespace Go.Proofs.YtabcjdalifhpdaaDoor
open Go.RowKit
theorem rd_iat {w : World} {S : Nat → Prop} {b o n c : Nat} {xs : List Int} (h : RdSl iE w S (.slice (some ⟨b, o, none⟩) n c) xs) {i : Nat} {x : Int} (hx : xs[i]? = some x) : w.cell? ⟨b, o + i, none⟩ = some (.int .i64 x) := by
 obtain ⟨b', o', e, _, _, y⟩ := h.at_i hx;injection e with e
 injection e with e1 e2
 subst e1 e2;exact y
theorem own_posA {w : World} {base : Nat} {e : TypeId} {size : Nat} {A : Option Addr} {n c : Nat} {xs : List Value} (h : w.ownsRow base e size (.slice A n c) n xs) (hn : 0 < n) : ∃ g, A = some ⟨g, 0, none⟩ ∧ base ≤ g := by
 rcases h.2 with ⟨h0, h1⟩ | ⟨g, cap, cur, hv, hg, _⟩
 ·injection h0 with _ h2 _; omega
 ·injection hv with h1 h2 h3
  exact ⟨g, h1, hg⟩
section
variable {B : Nat} {w0 w w' : World} {R R' : List Res}
theorem own_formV {w : World} {S : Nat → Prop} {base : Nat} {e : TypeId} {v : Value} {xs : List V} (h : OwnSl vE w S base e v xs) : ∃ A c, v = .slice A xs.length c := h.form
theorem held_vcs {S : Nat → Prop} {css : List (List Value)} {xs : List V} (h : Held vE w S css xs) : css = vcs xs := by
 apply List.ext_getElem?
 intro i;by_cases hi : i < xs.length
 ·have h1 : xs[i]? = some xs[i] := List.getElem?_eq_getElem hi;have h2 : css[i]? = some (css[i]'(by rw [h.len]; exact hi)) := List.getElem?_eq_getElem _;have h3 := (h.each i _ _ h1 h2).2;replace h3 : css[i]'(by rw [h.len]; exact hi) = [.int .i64 xs[i].k, .int .i64 xs[i].n] := h3;rw [h2, h3];simp [vcs, h1]
 ·rw [List.getElem?_eq_none (by have := h.len; omega), List.getElem?_eq_none (by simp [vcs]; omega)]
theorem St.ownV (h : St B w0 w R) (hb : Below w.heap.size w w') {S : Nat → Prop} {v : Value} {xs : List V} (ho : OwnSl vE w' S w.heap.size 61 v xs) {n : Nat} (hn : n ≤ w.heap.size) :
  St B w0 w' (.row n 61 2 v xs.length (cat (vcs xs)) :: R) ∧ Keeps w R w' (.row n 61 2 v xs.length (cat (vcs xs)) :: R) := by
 obtain ⟨css, hH, hr, _⟩ := ho;obtain rfl := held_vcs hH;exact h.made hb (.row n 61 2 v xs.length (cat (vcs xs))) (own_keep hr hn (fun _ _ => rfl)) (fun b hb' => ⟨(own_lt hr hb').2, (own_lt hr hb').1⟩)
theorem St.vCell (h : St B w0 w R) (i : Nat) {base n c g : Nat} {e : TypeId} {xs : List V} (hi : R[i]? = some (.row base e 2 (.slice (some ⟨g, 0, none⟩) n c) n (cat (vcs xs)))) {k : Nat} {x : V} (hk : xs[k]? = some x) :
  w.cell? ⟨g, k * 2, none⟩ = some (.int .i64 x.k) ∧ w.cell? ⟨g, k * 2 + 1, none⟩ = some (.int .i64 x.n) := by
 have hs : ∀ cs ∈ vcs xs, cs.length = 2 := fun cs hc => by
  obtain ⟨y, _, rfl⟩ := List.mem_map.1 hc;rfl
 have hc : (vcs xs)[k]? = some [.int .i64 x.k, .int .i64 x.n] := (by simp [vcs, hk]);have h0 := h.rowCell i hi hs (j := 0) hc rfl;have h1 := h.rowCell i hi hs (j := 1) hc rfl;rw [Nat.add_zero] at h0;exact ⟨h0, h1⟩
theorem vcs_setN {xs : List V} {k : Nat} {x : V} (hk : xs[k]? = some x) (y : Int) : (cat (vcs xs)).set (k * 2 + 1) (.int .i64 y) = cat (vcs (xs.set k ⟨x.k, y⟩)) := by
 have hs : ∀ cs ∈ vcs xs, cs.length = 2 := fun cs hc => by
  obtain ⟨y, _, rfl⟩ := List.mem_map.1 hc;rfl
 have hc : (vcs xs)[k]? = some [.int .i64 x.k, .int .i64 x.n] := (by simp [vcs, hk]);have := flat_set (i := k) (j := 1) (.int .i64 y) hs hc (by decide);unfold cat;rw [← this];simp [vcs, List.map_set]
theorem St.outV (h : St B w0 w R) (i : Nat) {base n c : Nat} {A : Option Addr} {xs : List V} (hi : R[i]? = some (.row base 61 2 (.slice A n c) n (cat (vcs xs)))) (hn : n = xs.length) (hs : xs.length * 16 ≤ 140737488355328) (S : Nat → Prop) :
  OwnSl vE w S base 61 (.slice A n c) xs := by
 subst hn;exact ⟨vcs xs, vcs_held xs, h.own i hi, hs⟩
theorem St.ownRow (h : St B w0 w R) (hb : Below w.heap.size w w') {e : TypeId} {size n : Nat} {v : Value} {xs : List Value} (ho : w'.ownsRow w.heap.size e size v n xs) {m : Nat} (hm : m ≤ w.heap.size) :
  St B w0 w' (.row m e size v n xs :: R) ∧ Keeps w R w' (.row m e size v n xs :: R) :=
 h.made hb (.row m e size v n xs) (own_keep ho hm (fun _ _ => rfl)) (fun _b hb' => ⟨(own_lt ho hb').2, (own_lt ho hb').1⟩)
def ics (l : List Int) : List (List Value) := l.map (fun x => [.int .i64 x])
theorem cat_ics : ∀ l : List Int, cat (ics l) = l.map (.int .i64)
 | [] => rfl
 | x :: l => by
  have := cat_ics l;unfold cat ics at *;simp [this]
theorem ics_held {S : Nat → Prop} (l : List Int) : Held iE w S (ics l) l := ⟨by simp [ics], fun i x cs hx hc => by
 simp [ics, hx] at hc
 subst hc;exact ⟨rfl, rfl⟩⟩
theorem St.outI (h : St B w0 w R) (i : Nat) {base n m : Nat} {e : TypeId} {v : Value} {xs : List Int} (hi : R[i]? = some (.row base e 1 v m (xs.map (.int .i64)))) (hm : m = xs.length) (hs : xs.length * 8 ≤ 140737488355328) (hn : n ≤ base) :
  RdSl iE w (Fr n (R.eraseIdx i)) v xs := by
 rw [← cat_ics] at hi;exact h.rdOut (E := iE) i hi rfl hm (ics_held xs) hs hn (by decide)
theorem St.iCell (h : St B w0 w R) (i : Nat) {base n c g : Nat} {e : TypeId} {xs : List Int} (hi : R[i]? = some (.row base e 1 (.slice (some ⟨g, 0, none⟩) n c) n (xs.map (.int .i64)))) {k : Nat} {x : Int} (hk : xs[k]? = some x) :
  w.cell? ⟨g, k, none⟩ = some (.int .i64 x) := by
 have := (h.own i hi).cells (g := g) rfl k (.int .i64 x) (by simp [hk]);rw [addr_add, Nat.zero_add] at this;exact this
theorem St.iPut (h : St B w0 w R) (i k : Nat) (x : Int) {base n c g : Nat} {e : TypeId} {xs : List Int} (hi : R[i]? = some (.row base e 1 (.slice (some ⟨g, 0, none⟩) n c) n (xs.map (.int .i64)))) :
  St B w0 (w.setCell ⟨g, k, none⟩ (.int .i64 x)) (R.set i (.row base e 1 (.slice (some ⟨g, 0, none⟩) n c) n ((xs.set k x).map (.int .i64)))) ∧ Keeps w R (w.setCell ⟨g, k, none⟩ (.int .i64 x)) (R.set i (.row base e 1 (.slice (some ⟨g, 0, none⟩) n c) n ((xs.set k x).map (.int .i64)))) := by
 have := h.rowPut i k (.int .i64 x) hi;rw [← List.map_set] at this;exact this
end
end Go.Proofs.YtabcjdalifhpdaaDoor
