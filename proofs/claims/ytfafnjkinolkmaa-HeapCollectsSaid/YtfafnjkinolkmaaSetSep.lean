/- A field of an object is set in a heap whose rows lie apart. No condition. -/
import Derived.Test.YtfafnjkinolkmaaLoc
import Derived.Test.YtfafnjkinolkmaaGetA
namespace Go.Proofs.Ytfafnjkinolkmaa
open Go.RowKit

/-- The objects, a field of one of them set. -/
def setOs (os : List Ob) (i j : Nat) (x : V) : List Ob := os.modify i (fun o => ⟨o.fields.set j x, o.dead⟩)
/-- What setting a field is answered with. -/
def setE (h : Hp) (v : V) (f : Int) (x : V) : Int := if hpB h [v, x] = false then 8 else objectE h.objs v f
def setH (h : Hp) (v : V) (f : Int) (x : V) : Hp := if setE h v f x = 0 then ⟨h.most, setOs h.objs v.n.toNat f.toNat x⟩ else ⟨0, []⟩
def SetD (w : World) (h : Hp) (v : V) (f : Int) (x : V) (en : Ending) (w' : World) : Prop :=
  ∃ u, en = .returned (.tuple #[u, .int .i64 (setE h v f x)]) ∧ RdH w' w.heap.size u (setH h v f x) ∧ Below w.heap.size w w'

theorem setOs_len (os : List Ob) (i j : Nat) (x : V) : (setOs os i j x).length = os.length := by simp [setOs]
theorem setOs_at {os : List Ob} {i j k : Nat} {x : V} : (setOs os i j x)[k]? = if i = k then (os[k]?).map (fun o => ⟨o.fields.set j x, o.dead⟩) else os[k]? := by
  simp only [setOs, List.getElem?_modify]
  split
  · rfl
  · cases os[k]? <;> rfl
theorem rowsOf_same {vs : List Value} {os os' : List Ob} (h : ∀ i : Nat, (os'[i]?).map (·.dead) = (os[i]?).map (·.dead)) : rowsOf vs os' = rowsOf vs os := by
  apply List.ext_getElem?
  intro i
  simp only [rowsOf, List.getElem?_zipWith]
  have := h i
  cases vs[i]? with
  | none => rfl
  | some u =>
    cases h1 : os'[i]? <;> cases h2 : os[i]? <;> simp [h1, h2] at this ⊢
    exact this
theorem rows_setOs {vs : List Value} {os : List Ob} {i j : Nat} {x : V} : rowsOf vs (setOs os i j x) = rowsOf vs os := rowsOf_same fun k => by
  rw [setOs_at]
  split
  · cases os[k]? <;> rfl
  · rfl

theorem own_frozen {w : World} {base : Nat} {e : TypeId} {size : Nat} {g n c : Nat} {xs : List Value} (h : w.ownsRow base e size (.slice (some ⟨g, 0, none⟩) n c) n xs) (i : Nat) : w.frozen? ⟨g, i, none⟩ = false := by
  rcases h.2 with ⟨h0, _⟩ | ⟨g', cap, cur, hv, _, hh, _⟩
  · cases h0
  · cases hv
    simp [World.frozen?, hh]
theorem own_cell {w : World} {base : Nat} {e : TypeId} {size : Nat} {g n c : Nat} {xs : List Value} (h : w.ownsRow base e size (.slice (some ⟨g, 0, none⟩) n c) n xs) {i : Nat} {u : Value} (hi : xs[i]? = some u) : w.cell? ⟨g, i, none⟩ = some u := by
  have := h.cells (g := g) rfl i u hi
  rw [addr_add] at this
  simpa using this
theorem own_pos {w : World} {base : Nat} {e : TypeId} {size : Nat} {A : Option Addr} {n c : Nat} {xs : List Value} (h : w.ownsRow base e size (.slice A n c) n xs) (hn : 0 < n) : ∃ g, A = some ⟨g, 0, none⟩ ∧ base ≤ g := by
  rcases h.2 with ⟨h0, h1⟩ | ⟨g', cap, cur, hv, hb, hh, _⟩
  · omega
  · cases hv
    exact ⟨g', rfl, hb⟩

theorem blk_ne {w : World} {a b : Nat} {cs cs' : Array Value} {t t' : TypeId} {fr fr' : Nat × Nat} (h : w.heap[a]? = some (.cells cs t fr)) (h' : w.heap[b]? = some (.cells cs' t' fr')) (ht : t ≠ t') : a ≠ b := fun e => by
  subst e
  rw [h] at h'
  injection h' with h'
  injection h' with _ h'
  exact ht h'
theorem OwnSl.setV {w : World} {base : Nat} {g n c : Nat} {xs : List V} (h : OwnSl vE w (fun _ => False) base 31 (.slice (some ⟨g, 0, none⟩) n c) xs) (hn : n = xs.length) {j : Nat} (hj : j < xs.length) (x : V) :
    OwnSl vE ((w.setCell ⟨g, j * 2, none⟩ (.int .i64 x.k)).setCell ⟨g, j * 2 + 1, none⟩ (.int .i64 x.n)) (fun _ => False) base 31 (.slice (some ⟨g, 0, none⟩) n c) (xs.set j x) := by
  subst hn
  obtain ⟨css, hH, hr, hs⟩ := h
  obtain ⟨y, hy⟩ : ∃ y, xs[j]? = some y := ⟨xs[j], List.getElem?_eq_getElem hj⟩
  have hjc : j < css.length := by rw [hH.len]; exact hj
  have hc : css[j]? = some css[j] := List.getElem?_eq_getElem hjc
  have hcs : css[j] = [.int .i64 y.k, .int .i64 y.n] := (hH.each j y _ hy hc).2
  have h1 := own_store (own_store hr (j * 2) (.int .i64 x.k)) (j * 2 + 1) (.int .i64 x.n)
  have hf : (css.flatten.set (j * 2) (Value.int .i64 x.k)).set (j * 2 + 1) (.int .i64 x.n) = (css.set j [.int .i64 x.k, .int .i64 x.n]).flatten := by
    have e1 := flat_set (size := 2) (i := j) (j := 0) (Value.int .i64 x.k) hH.size hc (by omega)
    have hsz : ∀ cs ∈ css.set j (css[j].set 0 (.int .i64 x.k)), cs.length = 2 := fun cs hm => by
      rcases List.mem_or_eq_of_mem_set hm with hm | rfl
      · exact hH.size cs hm
      · rw [hcs]; rfl
    have e2 := flat_set (size := 2) (i := j) (j := 1) (cs := css[j].set 0 (.int .i64 x.k)) (Value.int .i64 x.n) hsz (by simp [hjc]) (by omega)
    rw [Nat.add_zero] at e1
    rw [← e1, ← e2, List.set_set, hcs]
    rfl
  rw [hf] at h1
  refine ⟨css.set j [.int .i64 x.k, .int .i64 x.n], ⟨by simp [hH.len], fun i z cs hz hcz => ?_⟩, by simpa using h1, by simpa using hs⟩
  by_cases hij : j = i
  · subst hij
    rw [List.getElem?_set_self hj] at hz
    rw [List.getElem?_set_self hjc] at hcz
    injection hz with hz
    injection hcz with hcz
    subst hz; subst hcz
    exact ⟨rfl, rfl⟩
  · rw [List.getElem?_set_ne hij] at hz hcz
    exact hH.each i z cs hz hcz

/-- What is known where a field is to be set, and what is known behind it. -/
theorem SepTo.store {w : World} {base : Nat} {A : Option Addr} {C : Nat} {os : List Ob} {vs : List Value} (h : SepTo w (fun _ => False) base (.slice A os.length C) os vs os.length) {i j : Nat} {o : Ob} (ho : os[i]? = some o) (hj : j < o.fields.length) (x : V) :
    ∃ g q c y z, A = some ⟨g, 0, none⟩ ∧ base ≤ g ∧ w.cell? ⟨g, i * 2, none⟩ = some (.slice (some ⟨q, 0, none⟩) o.fields.length c) ∧ base ≤ q ∧ w.frozen? ⟨q, j * 2, none⟩ = false ∧ w.frozen? ⟨q, j * 2 + 1, none⟩ = false ∧
      w.cell? ⟨q, j * 2, none⟩ = some y ∧ w.cell? ⟨q, j * 2 + 1, none⟩ = some z ∧
      (∃ cs, w.heap[g]? = some (.cells cs 41 (0, 0))) ∧ (∃ cs, w.heap[q]? = some (.cells cs 31 (0, 0))) ∧
      SepTo ((w.setCell ⟨q, j * 2, none⟩ (.int .i64 x.k)).setCell ⟨q, j * 2 + 1, none⟩ (.int .i64 x.n)) (fun _ => False) base (.slice A os.length C) (setOs os i j x) vs (setOs os i j x).length := by
  have hi : i < os.length := (List.getElem?_eq_some_iff.1 ho).1
  obtain ⟨g, rfl, hg⟩ := own_pos h.row (by omega)
  obtain ⟨u, hu⟩ : ∃ u, vs[i]? = some u := ⟨vs[i]'(by rw [h.len]; exact hi), List.getElem?_eq_getElem _⟩
  have hd := h.done i o u hi ho hu
  obtain ⟨B, c, rfl⟩ := hd.form
  have hd' := hd
  obtain ⟨css, hH, hr, hs⟩ := hd'
  obtain ⟨q, rfl, hq⟩ := own_pos hr (by omega)
  obtain ⟨yv, hyv⟩ : ∃ y, o.fields[j]? = some y := ⟨o.fields[j], List.getElem?_eq_getElem hj⟩
  have hjc : j < css.length := by rw [hH.len]; exact hj
  have hc : css[j]? = some css[j] := List.getElem?_eq_getElem hjc
  have hcs : css[j] = [.int .i64 yv.k, .int .i64 yv.n] := (hH.each j yv _ hyv hc).2
  rw [hcs] at hc
  have k0 := own_cell hr (flat_at hH.size hc (j := 0) rfl)
  have k1 := own_cell hr (flat_at hH.size hc (j := 1) rfl)
  refine ⟨g, q, c, _, _, rfl, hg, own_cell h.row (flat_at (rowsOf_size vs os) (rowsOf_at ho hu) (j := 0) rfl), hq, own_frozen hr _, own_frozen hr _, k0, k1, own_type h.row rfl, own_type hr rfl, ?_⟩
  have hgq : g ≠ q := fun e => own_ne h.row hr (by decide) (b := g) rfl (by simp [Value.ownBlock, e])
  have hkeep : ∀ b, b ≠ q → ((w.setCell ⟨q, j * 2, none⟩ (.int .i64 x.k)).setCell ⟨q, j * 2 + 1, none⟩ (.int .i64 x.n)).heap[b]? = w.heap[b]? := fun b hb =>
    (Below.heap_setCell _ _ _ _ hb).trans (Below.heap_setCell _ _ _ _ hb)
  refine ⟨by rw [setOs_len]; exact h.len, ?_, fun i' p z' hi' hp hz => ?_, fun i' p z' hi' hp _ => ?_, fun a b z z' bl ha hb hab hz hz' h1 h2 => ?_⟩
  · rw [rows_setOs, setOs_len]
    exact own_keep h.row (Nat.le_refl _) (fun b hb => hkeep b (by simp [Value.ownBlock] at hb; omega))
  · rw [setOs_len] at hi'
    rw [setOs_at] at hp
    by_cases hii : i = i'
    · subst hii
      rw [if_pos rfl, ho] at hp
      injection hp with hp
      rw [hu] at hz
      injection hz with hz
      subst hp; subst hz
      exact hd.setV rfl hj x
    · rw [if_neg hii] at hp
      have hd2 := h.done i' p z' hi' hp hz
      refine hd2.keep (Nat.le_refl _) (fun b hb => hkeep b (fun e => ?_)) (fun _ _ h => h.elim)
      subst e
      exact h.apart i i' _ z' b hi hi' hii hu hz (by simp [Value.ownBlock]) hb
  · have := (List.getElem?_eq_some_iff.1 hp).1; omega
  · rw [setOs_len] at ha hb
    exact h.apart a b z z' bl ha hb hab hz hz' h1 h2

theorem SepTo.draw {w : World} {S : Nat → Prop} {base : Nat} {v : Value} {os : List Ob} {vs : List Value} (h : SepTo w S base v os vs os.length) : SepTo w.drew S base v os vs os.length :=
  SepTo.keep (w := w) (Nat.le_refl _) (fun _ _ _ => rfl) h
theorem rd_two {w : World} {b : Nat} {v x : V} {t : TypeId} (h : w.heap[b]? = some (.cells #[.int .i64 v.k, .int .i64 v.n, .int .i64 x.k, .int .i64 x.n] t (0, 0))) : RdSl vE w (fun _ => True) (.slice (some ⟨b, 0, none⟩) [v, x].length 2) [v, x] :=
  ⟨_, 2, rfl, Nat.le_refl _, by unfold maxLen; omega, by simp [vE], fun _ => ⟨b, 0, rfl, trivial, fun i y hy => by
    match i, hy with
    | 0, hy =>
      cases hy
      exact ⟨_, rfl, rfl, fun j u hu => by
        match j, hu with
        | 0, hu => (cases hu; simp [World.cell?, h, vE])
        | 1, hu => (cases hu; simp [World.cell?, h, vE])⟩
    | 1, hy =>
      cases hy
      exact ⟨_, rfl, rfl, fun j u hu => by
        match j, hu with
        | 0, hu => (cases hu; simp [World.cell?, h, vE])
        | 1, hu => (cases hu; simp [World.cell?, h, vE])⟩⟩⟩
end Go.Proofs.Ytfafnjkinolkmaa
