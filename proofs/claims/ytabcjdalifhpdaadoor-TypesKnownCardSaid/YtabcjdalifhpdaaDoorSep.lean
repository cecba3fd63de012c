/- A heap whose rows lie apart: what stays of it when other memory turns, and what an object more does to it. No condition. -/
import Derived.Test.YtabcjdalifhpdaaDoorCloneH
namespace Go.Proofs.YtabcjdalifhpdaaDoor
open Go.RowKit

theorem rowsOf_snoc {vs : List Value} {os : List Ob} (h : vs.length = os.length) (u : Value) (o : Ob) : rowsOf (vs ++ [u]) (os ++ [o]) = rowsOf vs os ++ [[u, .bool o.dead]] := by
  simp [rowsOf, List.zipWith_append h]

theorem own_form {w : World} {base : Nat} {e : TypeId} {size : Nat} {v : Value} {n : Nat} {xs : List Value} (h : w.ownsRow base e size v n xs) : ∃ A c, v = .slice A n c := by
  rcases h.2 with ⟨h, h0⟩ | ⟨g, cap, _, h, _⟩
  · exact ⟨none, 0, by rw [h, h0]⟩
  · exact ⟨_, cap, h⟩

theorem SepTo.keep {w w' : World} {S : Nat → Prop} {base base' : Nat} {v : Value} {os : List Ob} {vs : List Value} (hb : base' ≤ base) (hk : ∀ b, base ≤ b → b < w.heap.size → w'.heap[b]? = w.heap[b]?)
    (h : SepTo w S base v os vs os.length) : SepTo w' S base' v os vs os.length :=
  ⟨h.len, own_keep h.row hb (fun b hb' => hk b (own_lt h.row hb').2 (own_lt h.row hb').1),
    fun i o u hi ho hu => (h.done i o u hi ho hu).keep hb (fun b hb' => hk b ((h.done i o u hi ho hu).lt hb').2 ((h.done i o u hi ho hu).lt hb').1) (fun _ _ h => h.elim),
    fun i o u hi ho _ => by have := (List.getElem?_eq_some_iff.1 ho).1; omega, h.apart⟩

/-- An object more. -/
theorem SepTo.snoc {w w2 : World} {base : Nat} {v v' : Value} {os : List Ob} {vs : List Value} {o : Ob} {u : Value} (h : SepTo w (fun _ => False) base v os vs os.length)
    (hrow : w2.ownsRow base 124 2 v' (os.length + 1) ((rowsOf vs os).flatten ++ [u, .bool o.dead]))
    (hk : ∀ b, b < w.heap.size → v.ownBlock ≠ some b → w2.heap[b]? = w.heap[b]?)
    (hu : OwnSl vE w2 (fun _ => False) base 61 u o.fields) (hn : ∀ b, u.ownBlock = some b → w.heap.size ≤ b) :
    SepTo w2 (fun _ => False) base v' (os ++ [o]) (vs ++ [u]) (os ++ [o]).length := by
  have hold : ∀ (i : Nat) (p : Ob) (z : Value), os[i]? = some p → vs[i]? = some z → OwnSl vE w2 (fun _ => False) base 61 z p.fields := fun i p z hp hz => by
    have hd := h.done i p z (List.getElem?_eq_some_iff.1 hp).1 hp hz
    refine hd.keep (Nat.le_refl _) (fun b hb => hk b (hd.lt hb).1 ?_) (fun _ _ h => h.elim)
    obtain ⟨css, _, hr, _⟩ := hd
    exact fun e => own_ne h.row hr (by decide) (b := b) e hb
  have hlen := h.len
  refine ⟨by simp [h.len], ?_, fun i p z hi hp hz => ?_, fun i p z hi hp _ => ?_, fun i j z z' b hi hj hij hz hz' hb hb' => ?_⟩
  · rw [rowsOf_snoc h.len]
    simpa using hrow
  · rcases Nat.lt_or_ge i os.length with hl | hg
    · rw [List.getElem?_append_left hl] at hp
      rw [List.getElem?_append_left (by omega)] at hz
      exact hold i p z hp hz
    · have hi' : i = os.length := by simp at hi; omega
      subst hi'
      rw [List.getElem?_append_right (Nat.le_refl _)] at hp
      rw [← hlen, List.getElem?_append_right (Nat.le_refl _)] at hz
      simp at hp hz
      subst hp; subst hz
      exact hu
  · have := (List.getElem?_eq_some_iff.1 hp).1; omega
  · have key : ∀ (i j : Nat) (z z' : Value) (b : Nat), i < (os ++ [o]).length → j < (os ++ [o]).length → i < j → (vs ++ [u])[i]? = some z → (vs ++ [u])[j]? = some z' → z.ownBlock = some b → z'.ownBlock ≠ some b := by
      intro i j z z' b hi hj hij hz hz' hb hb'
      simp at hi hj
      rw [List.getElem?_append_left (by omega)] at hz
      have hp : os[i]? = some (os[i]'(by omega)) := List.getElem?_eq_getElem _
      rcases Nat.lt_or_ge j os.length with hl | hg
      · rw [List.getElem?_append_left (by omega)] at hz'
        exact h.apart i j z z' b (by omega) hl (by omega) hz hz' hb hb'
      · have hj' : j = vs.length := by omega
        subst hj'
        rw [List.getElem?_append_right (Nat.le_refl _)] at hz'
        simp at hz'
        subst hz'
        have h1 := (h.done i _ z (by omega) hp hz).lt hb
        have h2 := hn b hb'
        omega
    rcases Nat.lt_or_gt_of_ne hij with hl | hg
    · exact key i j z z' b hi hj hl hz hz' hb hb'
    · exact key j i z' z b hj hi hg hz' hz hb' hb
theorem SepTo.far {w : World} {S : Nat → Prop} {base : Nat} {v : Value} {os : List Ob} {vs : List Value} (h : SepTo w S base v os vs os.length) {a : Addr} (ha : a.block < base) (u : Value) : SepTo (w.setCell a u) S base v os vs os.length :=
  h.keep (Nat.le_refl _) (fun b hb _ => Below.heap_setCell _ _ _ _ (by omega))
theorem own_type {w : World} {base : Nat} {e : TypeId} {size : Nat} {v : Value} {n : Nat} {xs : List Value} (h : w.ownsRow base e size v n xs) {b : Nat} (hv : v.ownBlock = some b) : ∃ cs, w.heap[b]? = some (.cells cs e (0, 0)) := by
  rcases h.2 with ⟨rfl, _⟩ | ⟨g, cap, cur, rfl, _, hh, _⟩
  · cases hv
  · simp [Value.ownBlock] at hv
    subst hv
    exact ⟨_, hh⟩
/-- A store into a block of another type. -/
theorem SepTo.off {w : World} {S : Nat → Prop} {base : Nat} {v : Value} {os : List Ob} {vs : List Value} (h : SepTo w S base v os vs os.length) {a : Addr} {cs : Array Value} {t : TypeId} {fr : Nat × Nat} (hb : w.heap[a.block]? = some (.cells cs t fr)) (h1 : t ≠ 124) (h2 : t ≠ 61) (u : Value) : SepTo (w.setCell a u) S base v os vs os.length := by
  have key : ∀ {e : TypeId} {size : Nat} {v' : Value} {n : Nat} {xs : List Value}, t ≠ e → w.ownsRow base e size v' n xs → ∀ b, v'.ownBlock = some b → (w.setCell a u).heap[b]? = w.heap[b]? := fun {e size v' n xs} hne hr b hb' => by
    refine Below.heap_setCell _ _ _ _ (fun heq => ?_)
    obtain ⟨cs', hc⟩ := own_type hr hb'
    rw [heq, hb] at hc
    injection hc with hc
    injection hc with _ ht
    exact hne ht
  refine ⟨h.len, own_keep h.row (Nat.le_refl _) (key h1 h.row), fun i o z hi ho hz => ?_, fun i o z hi ho _ => ?_, h.apart⟩
  · have hd := h.done i o z hi ho hz
    refine hd.keep (Nat.le_refl _) (fun b hb' => ?_) (fun _ _ h => h.elim)
    obtain ⟨css, _, hr, _⟩ := hd
    exact key h2 hr b hb'
  · have := (List.getElem?_eq_some_iff.1 ho).1; omega
theorem sep_none {w : World} {S : Nat → Prop} {base : Nat} : SepTo w S base (.slice none 0 0) [] [] 0 :=
  ⟨rfl, ⟨rfl, .inl ⟨rfl, rfl⟩⟩, fun i o u h => by omega, fun i o u _ h => by simp at h, fun i j u u' b h => by omega⟩
end Go.Proofs.YtabcjdalifhpdaaDoor
