/- What values lead to: the order in which it is come to, told once for both ways of reckoning it. Plain Lean; no run. Plain laws of what values lead to: it is closed, it begins with what comes first, and holds what the values name. No condition. -/
import Derived.Test.YtabcjdalifhpdaaDoorSpecH
namespace Go.Proofs.YtabcjdalifhpdaaDoor
section
def fieldsOf (os : List Ob) (n : Int) : List V := match os[n.toNat]? with | some o => o.fields | none => []
def fresh (out : List Int) (v : V) : Bool := decide (v.k = 2) && !decide (v.n ∈ out)
def come : List Int → List V → List Int
 | out, [] => out
 | out, v :: l => if fresh out v then come (out ++ [v.n]) l else come out l
inductive Led (os : List Ob) : List V → List Int → List Int → Prop
 | done (out : List Int) : Led os [] out out
 | new {v : V} {q : List V} {out r : List Int} : fresh out v = true → Led os (q ++ fieldsOf os v.n) (out ++ [v.n]) r → Led os (v :: q) out r
 | old {v : V} {q : List V} {out r : List Int} : fresh out v = false → Led os q out r → Led os (v :: q) out r
theorem Led.one {os : List Ob} {q : List V} {out r r' : List Int} (h : Led os q out r) (h' : Led os q out r') : r = r' := by
 induction h with
 | done => cases h'; rfl
 | new hf _ ih =>
  cases h' with
  | new _ h' => exact ih h'
  | old hf' _ => rw [hf] at hf'; cases hf'
 | old hf _ ih =>
  cases h' with
  | new hf' _ => rw [hf] at hf'; cases hf'
  | old _ h' => exact ih h'
def flatF (os : List Ob) (l : List Int) : List V := (l.map (fieldsOf os)).flatten
theorem flatF_append (os : List Ob) (l l' : List Int) : flatF os (l ++ l') = flatF os l ++ flatF os l' := by simp [flatF]
theorem come_pre : ∀ (l : List V) (out : List Int), ∃ nw, come out l = out ++ nw
 | [], out => ⟨[], by simp [come]⟩
 | v :: l, out => by
  simp only [come];split
  ·obtain ⟨nw, h⟩ := come_pre l (out ++ [v.n]);exact ⟨v.n :: nw, by rw [h]; simp⟩
  ·exact come_pre l out
theorem come_snoc : ∀ (l : List V) (out : List Int) (x : V), come out (l ++ [x]) = if fresh (come out l) x then come out l ++ [x.n] else come out l
 | [], out, x => rfl
 | v :: l, out, x => by
  simp only [List.cons_append, come];split
  ·exact come_snoc l _ x
  ·exact come_snoc l _ x
theorem come_take {l : List V} {k : Nat} {x : V} (out : List Int) (h : l[k]? = some x) : come out (l.take (k + 1)) = if fresh (come out (l.take k)) x then come out (l.take k) ++ [x.n] else come out (l.take k) := by
 rw [List.take_add_one, h];exact come_snoc _ _ _
theorem Led.row {os : List Ob} : ∀ {l rest : List V} {out nw r : List Int}, come out l = out ++ nw → Led os (rest ++ flatF os nw) (out ++ nw) r → Led os (l ++ rest) out r
 | [], rest, out, nw, r, hc, h => by
  have : nw = [] := (by simpa [come] using hc);subst this;simpa [flatF] using h
 | v :: l, rest, out, nw, r, hc, h => by
  simp only [come] at hc;split at hc
  ·rename_i hf
   obtain ⟨nw', hn⟩ := come_pre l (out ++ [v.n]);have he : nw = v.n :: nw' := by
    rw [hn, List.append_assoc] at hc;exact (List.append_cancel_left hc).symm
   subst he;refine Led.new hf ?_;have := Led.row (os := os) (l := l) (rest := rest ++ fieldsOf os v.n) (out := out ++ [v.n]) (nw := nw') (r := r) hn (by
    have e1 : flatF os (v.n :: nw') = fieldsOf os v.n ++ flatF os nw' := (by simp [flatF]);rw [e1] at h;simpa [List.append_assoc] using h)
   simpa [List.append_assoc] using this
  ·rename_i hf
   exact Led.old (by simpa using hf) (Led.row hc h)
structure Told (n : Nat) (out : List Int) : Prop where
 nodup : out.Nodup
 within : ∀ i ∈ out, 0 ≤ i ∧ i < n
theorem Told.nil {n : Nat} : Told n [] := ⟨List.nodup_nil, fun i h => by cases h⟩
theorem Told.snoc {n : Nat} {out : List Int} {i : Int} (h : Told n out) (h0 : 0 ≤ i) (h1 : i < n) (hi : i ∉ out) : Told n (out ++ [i]) :=
 ⟨List.nodup_append.2 ⟨h.nodup, by simp, by
   intro a ha b hb;simp at hb
   subst hb;exact fun e => hi (e ▸ ha)⟩, fun j hj => by
  rcases List.mem_append.1 hj with hj | hj
  ·exact h.within j hj
  ·simp at hj; subst hj; exact ⟨h0, h1⟩⟩
def RefsIn (n : Nat) (l : List V) : Prop := ∀ v ∈ l, v.k = 2 → 0 ≤ v.n ∧ v.n < n
theorem Told.come {n : Nat} : ∀ {l : List V} {out : List Int}, Told n out → RefsIn n l → Told n (come out l)
 | [], _, h, _ => h
 | v :: l, out, h, hr => by
  simp only [Go.Proofs.YtabcjdalifhpdaaDoor.come];split
  ·rename_i hf
   simp [fresh] at hf
   have := hr v (by simp) hf.1;exact (h.snoc this.1 this.2 hf.2).come (fun x hx => hr x (by simp [hx]))
  ·exact h.come (fun x hx => hr x (by simp [hx]))
theorem len_le : ∀ {n : Nat} {l : List Nat}, l.Nodup → (∀ x ∈ l, x < n) → l.length ≤ n
 | 0, l, _, h => by
  cases l with
  | nil => simp
  | cons a l => have := h a (by simp); omega
 | n + 1, l, hd, h => by
  have h1 := len_le (n := n) (hd.erase n) (fun x hx => by
   rw [hd.mem_erase_iff] at hx;have := h x hx.2;have := hx.1;omega)
  by_cases hm : n ∈ l
  ·rw [List.length_erase_of_mem hm] at h1;omega
  ·rw [List.erase_of_not_mem hm] at h1;omega
theorem Told.len {n : Nat} {out : List Int} (h : Told n out) : out.length ≤ n := by
 have h1 : (out.map Int.toNat).Nodup := by
  refine List.pairwise_map.2 (h.nodup.imp_of_mem ?_);intro a b ha hb hab e;have := h.within a ha;have := h.within b hb;omega
 have := len_le (n := n) h1 (fun x hx => by
  obtain ⟨i, hi, rfl⟩ := List.mem_map.1 hx;have := h.within i hi;omega)
 simpa using this
theorem refs_fields {n : Nat} {os : List Ob} (h : ∀ o ∈ os, RefsIn n o.fields) (i : Int) : RefsIn n (fieldsOf os i) := by
 unfold fieldsOf;split
 ·rename_i o ho
  exact h o (List.mem_of_getElem? ho)
 ·exact fun v hv => by cases hv
open Classical in
noncomputable def reachL (os : List Ob) (roots : List V) : List Int := if h : ∃ l, Led os roots [] l then h.choose else []
theorem reachL_is {os : List Ob} {roots : List V} {l : List Int} (h : Led os roots [] l) : reachL os roots = l := by
 have hx : ∃ l, Led os roots [] l := ⟨l, h⟩;unfold reachL;rw [dif_pos hx];exact hx.choose_spec.one h
end
section
theorem Led.pre {os : List Ob} {q : List V} {out r : List Int} (h : Led os q out r) : ∃ nw, r = out ++ nw := by
 induction h with
 | done out => exact ⟨[], by simp⟩
 | @new v q out r hf _ ih => obtain ⟨nw, h⟩ := ih; exact ⟨v.n :: nw, by rw [h]; simp⟩
 | old hf _ ih => exact ih
theorem Led.sub {os : List Ob} {q : List V} {out r : List Int} (h : Led os q out r) {n : Int} (hn : n ∈ out) : n ∈ r := by
 obtain ⟨nw, rfl⟩ := h.pre;exact List.mem_append_left _ hn
theorem fresh_false {out : List Int} {v : V} (h : fresh out v = false) (hk : v.k = 2) : v.n ∈ out := by
 simpa [fresh, hk] using h
theorem Led.roots {os : List Ob} {q : List V} {out r : List Int} (h : Led os q out r) : ∀ v ∈ q, v.k = 2 → v.n ∈ r := by
 induction h with
 | done out => intro v hv; cases hv
 | @new v q out r hf h ih =>
  intro x hx hk;rcases List.mem_cons.1 hx with rfl | hx
  ·exact h.sub (by simp)
  ·exact ih x (List.mem_append_left _ hx) hk
 | @old v q out r hf h ih =>
  intro x hx hk;rcases List.mem_cons.1 hx with rfl | hx
  ·exact h.sub (fresh_false hf hk)
  ·exact ih x hx hk
theorem Led.closed {os : List Ob} {q : List V} {out r : List Int} (h : Led os q out r) (hc : ∀ n ∈ out, ∀ v ∈ fieldsOf os n, v.k = 2 → v.n ∈ out ∨ v ∈ q) :
  ∀ n ∈ r, ∀ v ∈ fieldsOf os n, v.k = 2 → v.n ∈ r := by
 induction h with
 | done out =>
  intro n hn v hv hk;rcases hc n hn v hv hk with h | h
  ·exact h
  ·cases h
 | @new v q out r hf h ih =>
  refine ih (fun n hn x hx hk => ?_);rcases List.mem_append.1 hn with hn | hn
  ·rcases hc n hn x hx hk with h | h
   ·exact .inl (List.mem_append_left _ h)
   ·rcases List.mem_cons.1 h with rfl | h
    ·exact .inl (by simp)
    ·exact .inr (List.mem_append_left _ h)
  ·simp at hn
   subst hn;exact .inr (List.mem_append_right _ hx)
 | @old v q out r hf h ih =>
  refine ih (fun n hn x hx hk => ?_);rcases hc n hn x hx hk with h | h
  ·exact .inl h
  ·rcases List.mem_cons.1 h with rfl | h
   ·exact .inl (fresh_false hf hk)
   ·exact .inr h
theorem Led.shut {os : List Ob} {q : List V} {r : List Int} (h : Led os q [] r) : ∀ n ∈ r, ∀ v ∈ fieldsOf os n, v.k = 2 → v.n ∈ r := h.closed (fun _ hn => by cases hn)
theorem Led.first {os : List Ob} {v : V} {q : List V} {r : List Int} (h : Led os (v :: q) [] r) (hk : v.k = 2) : r[0]? = some v.n := by
 cases h with
 | new hf h =>
  obtain ⟨nw, rfl⟩ := h.pre;simp
 | old hf h => exact absurd (fresh_false hf hk) (by simp)
theorem Told.sizes {n : Nat} {out : List Int} {i : Int} (h : Told n (out ++ [i])) : out.length < n := by
 have := h.len;simp at this
 omega
theorem led_ex {os : List Ob} {n : Nat} (hf : ∀ o ∈ os, RefsIn n o.fields) : ∀ (k : Nat) (q : List V) (out : List Int), Told n out → RefsIn n q → n - out.length ≤ k → ∃ r, Led os q out r ∧ Told n r
 | k, [], out, ht, _, _ => ⟨out, .done out, ht⟩
 | k, v :: q, out, ht, hq, hk => by
  by_cases hfr : fresh out v = true
  ·have h2 := hfr;simp [fresh] at h2
   have hv := hq v (by simp) h2.1;have ht' := ht.snoc hv.1 hv.2 h2.2;have hs := ht'.sizes;match k, hk with
   | 0, hk => omega
   | k + 1, hk =>
    obtain ⟨r, hr, htr⟩ := led_ex hf k (q ++ fieldsOf os v.n) (out ++ [v.n]) ht' (fun x hx h => by
     rcases List.mem_append.1 hx with hx | hx
     ·exact hq x (by simp [hx]) h
     ·exact refs_fields hf _ x hx h) (by simp; omega)
    exact ⟨r, .new hfr hr, htr⟩
  ·have hfr' : fresh out v = false := (by simpa using hfr);obtain ⟨r, hr, htr⟩ := led_ex hf k q out ht (fun x hx => hq x (by simp [hx])) hk;exact ⟨r, .old hfr' hr, htr⟩
 termination_by k q => (k, q.length)
end
end Go.Proofs.YtabcjdalifhpdaaDoor
