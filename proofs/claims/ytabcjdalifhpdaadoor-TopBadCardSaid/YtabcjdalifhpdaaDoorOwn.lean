/- Slices that a call has made: what it says that one owns its row and holds a list; how such a slice is read, and what an append does to it. No condition beside sizes. -/
import Derived.Test.YtabcjdalifhpdaaDoorHeapA
import Derived.Maps.AppendAt
import Derived.Deep.AppendLies
import Derived.Deep.RegionHeld3
import Derived.OwnWalk
namespace Go.Proofs.YtabcjdalifhpdaaDoor
open Go.RowKit
theorem addr_add (b o n : Nat) : (⟨b, o, none⟩ : Addr).add n = ⟨b, o + n, none⟩ := by
 unfold Addr.add;split
 ·rename_i h; subst h; rfl
 ·rfl
theorem flat_len {β : Type} {size : Nat} : ∀ {css : List (List β)}, (∀ cs ∈ css, cs.length = size) → css.flatten.length = css.length * size
 | [], _ => by simp
 | a :: r, h => by
  have ih := flat_len (css := r) (fun cs hc => h cs (List.mem_cons_of_mem _ hc));rw [List.flatten_cons, List.length_append, ih, h a (List.mem_cons_self ..), List.length_cons, Nat.succ_mul, Nat.add_comm]
theorem flat_at {β : Type} {size : Nat} : ∀ {css : List (List β)} {i j : Nat} {cs : List β} {u : β}, (∀ cs ∈ css, cs.length = size) → css[i]? = some cs → cs[j]? = some u → css.flatten[i * size + j]? = some u
 | [], i, j, cs, u, _, h, _ => by simp at h
 | a :: r, 0, j, cs, u, h, hi, hj => by
  simp at hi; subst hi
  have : j < a.length := (List.getElem?_eq_some_iff.1 hj).1;rw [List.flatten_cons, Nat.zero_mul, Nat.zero_add, List.getElem?_append_left this, hj]
 | a :: r, i + 1, j, cs, u, h, hi, hj => by
  have ha := h a (List.mem_cons_self ..);have ih := flat_at (css := r) (i := i) (fun cs hc => h cs (List.mem_cons_of_mem _ hc)) (by simpa using hi) hj;rw [List.flatten_cons, List.getElem?_append_right (by rw [ha, Nat.succ_mul]; omega), ha, ← ih];congr 1
  rw [Nat.succ_mul]; omega
theorem flat_back {β : Type} {size : Nat} : ∀ {css : List (List β)} {k : Nat} {u : β}, (∀ cs ∈ css, cs.length = size) → css.flatten[k]? = some u → ∃ i j cs, css[i]? = some cs ∧ cs[j]? = some u ∧ k = i * size + j
 | [], k, u, _, h => by simp at h
 | a :: r, k, u, h, hk => by
  have ha := h a (List.mem_cons_self ..);rcases Nat.lt_or_ge k a.length with hl | hg
  ·rw [List.flatten_cons, List.getElem?_append_left hl] at hk;exact ⟨0, k, a, rfl, hk, by simp⟩
  ·rw [List.flatten_cons, List.getElem?_append_right hg] at hk;obtain ⟨i, j, cs, hi, hj, he⟩ := flat_back (fun cs hc => h cs (List.mem_cons_of_mem _ hc)) hk;exact ⟨i + 1, j, cs, by simpa using hi, hj, by rw [Nat.succ_mul]; omega⟩
theorem blk_at {w : World} {o : Obj} {k : Nat} (h : k = w.heap.size) : (w.alloc o).heap[k]? = some o := h ▸ heap_alloc_new w o
theorem blk_old {w : World} {o p : Obj} {k : Nat} (h : w.heap[k]? = some p) : (w.alloc o).heap[k]? = some p := by
 have hl : k < w.heap.size := by
  rcases Nat.lt_or_ge k w.heap.size with hl | hge
  ·exact hl
  ·rw [Array.getElem?_eq_none hge] at h; cases h
 exact (Below.heap_alloc w o k hl).trans h
theorem blk_set {w : World} {g i : Nat} {cs : Array Value} {t : TypeId} {fr : Nat × Nat} (h : w.heap[g]? = some (.cells cs t fr)) (u : Value) : (w.setCell ⟨g, i, none⟩ u).heap[g]? = some (.cells (cs.setIfInBounds i u) t fr) := by
 simp [World.setCell, Array.getElem?_modify, h]
theorem own_below {w w' : World} {base : Nat} {e : TypeId} {size : Nat} {v : Value} {n : Nat} {xs : List Value} (h : w.ownsRow base e size v n xs) (hb : Below w.heap.size w w') : w'.ownsRow base e size v n xs := by
 obtain ⟨h1, h2⟩ := h;refine ⟨h1, ?_⟩;rcases h2 with h2 | ⟨g, cap, cur, hv, hg, hh, r⟩
 ·exact .inl h2
 ·refine .inr ⟨g, cap, cur, hv, hg, ?_, r⟩;have hl : g < w.heap.size := by
   rcases Nat.lt_or_ge g w.heap.size with hl | hge
   ·exact hl
   ·rw [Array.getElem?_eq_none hge] at hh; cases hh
  exact (hb.block g hl).trans hh
theorem own_keep {w w' : World} {base base' : Nat} {e : TypeId} {size : Nat} {v : Value} {n : Nat} {xs : List Value} (h : w.ownsRow base e size v n xs) (hb : base' ≤ base) (hk : ∀ b, v.ownBlock = some b → w'.heap[b]? = w.heap[b]?) : w'.ownsRow base' e size v n xs := by
 obtain ⟨h1, h2⟩ := h;refine ⟨h1, ?_⟩;rcases h2 with h2 | ⟨g, cap, cur, hv, hg, hh, r⟩
 ·exact .inl h2
 ·exact .inr ⟨g, cap, cur, hv, Nat.le_trans hb hg, (hk g (by rw [hv]; rfl)).trans hh, r⟩
theorem own_ne {w : World} {base base' : Nat} {e e' : TypeId} {size size' : Nat} {v v' : Value} {n n' : Nat} {xs xs' : List Value} (h : w.ownsRow base e size v n xs) (h' : w.ownsRow base' e' size' v' n' xs') (he : e ≠ e') {b : Nat} (hv : v.ownBlock = some b) : v'.ownBlock ≠ some b := by
 intro hv';rcases h.2 with ⟨rfl, _⟩ | ⟨g, cap, cur, rfl, _, hh, _⟩
 ·cases hv
 rcases h'.2 with ⟨rfl, _⟩ | ⟨g', cap', cur', rfl, _, hh', _⟩
 ·cases hv'
 simp [Value.ownBlock] at hv hv'
 subst hv;subst hv';rw [hh] at hh';injection hh' with hh'
 injection hh' with _ ht
 exact he ht
theorem own_lt {w : World} {base : Nat} {e : TypeId} {size : Nat} {v : Value} {n : Nat} {xs : List Value} (h : w.ownsRow base e size v n xs) {g : Nat} (hg : v.ownBlock = some g) : g < w.heap.size ∧ base ≤ g := by
 rcases h.2 with ⟨rfl, _⟩ | ⟨g', cap, cur, rfl, hb, hh, _⟩
 ·cases hg
 ·simp [Value.ownBlock] at hg
  subst hg;refine ⟨?_, hb⟩;rcases Nat.lt_or_ge g' w.heap.size with hl | hge
  ·exact hl
  ·rw [Array.getElem?_eq_none hge] at hh; cases hh
theorem flat_set {β : Type} {size : Nat} : ∀ {css : List (List β)} {i j : Nat} {cs : List β} (u : β), (∀ cs ∈ css, cs.length = size) → css[i]? = some cs → j < size → (css.set i (cs.set j u)).flatten = css.flatten.set (i * size + j) u
 | [], i, j, cs, u, _, h, _ => by simp at h
 | a :: r, 0, j, cs, u, h, hi, hj => by
  simp at hi; subst hi
  have ha := h a (List.mem_cons_self ..);rw [List.set_cons_zero, List.flatten_cons, List.flatten_cons, Nat.zero_mul, Nat.zero_add, List.set_append_left _ _ (by omega)]
 | a :: r, i + 1, j, cs, u, h, hi, hj => by
  have ha := h a (List.mem_cons_self ..);have ih := flat_set (css := r) (i := i) u (fun cs hc => h cs (List.mem_cons_of_mem _ hc)) (by simpa using hi) hj;rw [List.set_cons_succ, List.flatten_cons, List.flatten_cons, List.set_append_right _ _ (by rw [ha, Nat.succ_mul]; omega), ih, ha];congr 2
  rw [Nat.succ_mul]; omega
theorem own_store {w : World} {base : Nat} {e : TypeId} {size : Nat} {g n c : Nat} {xs : List Value} (h : w.ownsRow base e size (.slice (some ⟨g, 0, none⟩) n c) n xs) (i : Nat) (u : Value) :
  (w.setCell ⟨g, i, none⟩ u).ownsRow base e size (.slice (some ⟨g, 0, none⟩) n c) n (xs.set i u) := by
 obtain ⟨h1, h2⟩ := h;refine ⟨by simpa using h1, ?_⟩;rcases h2 with ⟨h0, _⟩ | ⟨g', cap, cur, hv, hg, hh, hn, hm, hs, ht⟩
 ·cases h0
 ·cases hv
  refine .inr ⟨g, c, cur.setIfInBounds i u, rfl, hg, blk_set hh u, hn, hm, by simpa using hs, ?_⟩;rw [Array.toList_setIfInBounds, List.take_set, ht]
structure Held {α : Type} (E : El α) (w : World) (S : Nat → Prop) (css : List (List Value)) (xs : List α) : Prop where
 len : css.length = xs.length
 each : ∀ (i : Nat) (x : α) (cs : List Value), xs[i]? = some x → css[i]? = some cs → cs.length = E.size ∧ E.rd w S cs x
section
variable {α : Type} {E : El α} {w w' : World} {S S' : Nat → Prop} {css : List (List Value)} {xs : List α}
theorem Held.size (h : Held E w S css xs) : ∀ cs ∈ css, cs.length = E.size := fun cs hc => by
 obtain ⟨i, hi⟩ := List.getElem?_of_mem hc;have hil : i < css.length := (List.getElem?_eq_some_iff.1 hi).1;have hx : xs[i]? = some (xs[i]'(by rw [← h.len]; exact hil)) := List.getElem?_eq_getElem _;exact (h.each i _ cs hx hi).1
theorem Held.one (h : Held E w S css xs) : ∀ u ∈ css.flatten, u.oneCell' = true := fun u hu => by
 obtain ⟨cs, hc, hu⟩ := List.mem_flatten.1 hu;obtain ⟨i, hi⟩ := List.getElem?_of_mem hc;have hil : i < css.length := (List.getElem?_eq_some_iff.1 hi).1;have hx : xs[i]? = some (xs[i]'(by rw [← h.len]; exact hil)) := List.getElem?_eq_getElem _;exact E.one (h.each i _ cs hx hi).2 u hu
theorem Held.keep (hk : ∀ b, b < w.heap.size → S b → S' b ∧ w'.heap[b]? = w.heap[b]?) (h : Held E w S css xs) : Held E w' S' css xs :=
 ⟨h.len, fun i x cs hx hc => ⟨(h.each i x cs hx hc).1, E.keep hk (h.each i x cs hx hc).2⟩⟩
theorem Held.nil : Held E w S [] [] := ⟨rfl, fun i x cs h => by simp at h⟩
theorem Held.append {css' : List (List Value)} {ys : List α} (h : Held E w S css xs) (h' : Held E w S css' ys) : Held E w S (css ++ css') (xs ++ ys) :=
 ⟨by simp [h.len, h'.len], fun i x cs hx hc => by
  rcases Nat.lt_or_ge i xs.length with hl | hg
  ·rw [List.getElem?_append_left hl] at hx;rw [List.getElem?_append_left (by rw [h.len]; exact hl)] at hc;exact h.each i x cs hx hc
  ·rw [List.getElem?_append_right hg] at hx;rw [List.getElem?_append_right (by rw [h.len]; exact hg), h.len] at hc;exact h'.each _ x cs hx hc⟩
theorem Held.single {cs : List Value} {x : α} (hl : cs.length = E.size) (hr : E.rd w S cs x) : Held E w S [cs] [x] :=
 ⟨rfl, fun i y ds hx hc => by
  cases i with
  | zero => simp at hx hc; subst hx; subst hc; exact ⟨hl, hr⟩
  | succ n => simp at hx⟩
theorem RdSl.held {A : Option Addr} {n c : Nat} (h : RdSl E w S (.slice A n c) xs) : ∃ css, Held E w S css xs ∧ ∀ ad, A = some ad → ∀ (j : Nat) (u : Value), css.flatten[j]? = some u → w.cell? (ad.add j) = some u := by
 obtain ⟨A', c', hv, _, _, _, h4⟩ := h
 cases hv
 by_cases hne : xs = []
 ·subst hne;exact ⟨[], Held.nil, fun _ _ j u hu => by simp at hu⟩
 obtain ⟨b, o, rfl, _, hi⟩ := h4 hne;have hL : ∀ n, n ≤ xs.length → ∃ css : List (List Value), css.length = n ∧ ∀ (i : Nat) (x : α) (cs : List Value), xs[i]? = some x → css[i]? = some cs → cs.length = E.size ∧ E.rd w S cs x ∧ ∀ (j : Nat) (u : Value), cs[j]? = some u → w.cell? ⟨b, o + i * E.size + j, none⟩ = some u := by
  intro n;induction n with
  | zero => exact fun _ => ⟨[], rfl, fun i x cs _ h => by simp at h⟩
  | succ n ih =>
   intro hn;obtain ⟨css, hl, hc⟩ := ih (by omega);obtain ⟨cs, h1, h2, h3⟩ := hi n xs[n] (List.getElem?_eq_getElem (by omega));refine ⟨css ++ [cs], by simp [hl], fun i x ds hx hd => ?_⟩;rcases Nat.lt_or_ge i n with hlt | hge
   ·rw [List.getElem?_append_left (by omega)] at hd;exact hc i x ds hx hd
   ·rw [List.getElem?_append_right (by omega)] at hd;have : i = n := by
     rcases Nat.eq_or_lt_of_le hge with h | h
     ·exact h.symm
     ·rw [List.getElem?_eq_none (by simp; omega)] at hd; cases hd
    subst this;simp [hl] at hd
    subst hd;rw [List.getElem?_eq_getElem (by omega)] at hx;injection hx with hx
    subst hx;exact ⟨h1, h2, h3⟩
 obtain ⟨css, hl, hc⟩ := hL xs.length (Nat.le_refl _);have hH : Held E w S css xs := ⟨hl, fun i x cs hx hcs => ⟨(hc i x cs hx hcs).1, (hc i x cs hx hcs).2.1⟩⟩;refine ⟨css, hH, fun ad had j u hu => ?_⟩;injection had with had
 subst had;obtain ⟨i, r, cs, h1, h2, rfl⟩ := flat_back hH.size hu;have hil : i < css.length := (List.getElem?_eq_some_iff.1 h1).1;have hx : xs[i]? = some (xs[i]'(by rw [← hl]; exact hil)) := List.getElem?_eq_getElem _;have := (hc i _ cs hx h1).2.2 r u h2;rw [← this, addr_add, Nat.add_assoc]
def OwnSl (E : El α) (w : World) (S : Nat → Prop) (base : Nat) (e : TypeId) (v : Value) (xs : List α) : Prop :=
 ∃ css, Held E w S css xs ∧ w.ownsRow base e E.size v xs.length css.flatten ∧ xs.length * E.bytes ≤ 140737488355328
theorem OwnSl.rd {base : Nat} {e : TypeId} {v : Value} (h : OwnSl E w S base e v xs) : RdSl E w (fun b => S b ∨ base ≤ b) v xs := by
 obtain ⟨css, hH, hown, hb⟩ := h;rcases hown.2 with ⟨rfl, h0⟩ | ⟨g, cap, cur, rfl, hg, _, hn, hm, _⟩
 ·refine ⟨none, 0, by rw [h0], by omega, Nat.zero_le _, hb, fun hne => absurd (List.eq_nil_of_length_eq_zero h0) hne⟩
 ·refine ⟨_, cap, rfl, hn, hm, hb, fun _ => ⟨g, 0, rfl, .inr hg, fun i x hx => ?_⟩⟩;have hil : i < xs.length := (List.getElem?_eq_some_iff.1 hx).1;have hc : css[i]? = some (css[i]'(by rw [hH.len]; exact hil)) := List.getElem?_eq_getElem _;obtain ⟨h1, h2⟩ := hH.each i x _ hx hc;refine ⟨_, h1, E.keep (fun b _ hS => ⟨.inl hS, rfl⟩) h2, fun j u hu => ?_⟩;have := hown.cells (g := g) rfl _ u (flat_at hH.size hc hu);rw [← this, addr_add, Nat.zero_add, Nat.zero_add]
theorem OwnSl.flat {base : Nat} {e : TypeId} {v : Value} (hE : ∀ (S S' : Nat → Prop) (cs : List Value) (x : α), E.rd w S cs x → E.rd w S' cs x) (h : OwnSl E w S base e v xs) : OwnSl E w S' base e v xs :=
 let ⟨css, hH, hr⟩ := h
 ⟨css, ⟨hH.len, fun i x cs hx hc => ⟨(hH.each i x cs hx hc).1, hE _ _ _ _ (hH.each i x cs hx hc).2⟩⟩, hr⟩
theorem OwnSl.keep {base base' : Nat} {e : TypeId} {v : Value} (hb : base' ≤ base) (hk : ∀ b, v.ownBlock = some b → w'.heap[b]? = w.heap[b]?) (hS : ∀ b, b < w.heap.size → S b → S' b ∧ w'.heap[b]? = w.heap[b]?)
  (h : OwnSl E w S base e v xs) : OwnSl E w' S' base' e v xs :=
 let ⟨css, hH, hr, hs⟩ := h
 ⟨css, hH.keep hS, own_keep hr hb hk, hs⟩
theorem OwnSl.lt {base : Nat} {e : TypeId} {v : Value} (h : OwnSl E w S base e v xs) {g : Nat} (hg : v.ownBlock = some g) : g < w.heap.size ∧ base ≤ g :=
 let ⟨_, _, hr, _⟩ := h
 own_lt hr hg
theorem OwnSl.form {base : Nat} {e : TypeId} {v : Value} (h : OwnSl E w S base e v xs) : ∃ A c, v = .slice A xs.length c := by
 obtain ⟨A, c, hv, _⟩ := h.rd.form;exact ⟨A, c, hv⟩
end
end Go.Proofs.YtabcjdalifhpdaaDoor
