/- Plain laws of what values lead to: it is closed, it begins with what comes first, and holds what the values name. No condition. -/
import Derived.Test.YtfafnjkinolkmaaLed
namespace Go.Proofs.Ytfafnjkinolkmaa

theorem Led.pre {os : List Ob} {q : List V} {out r : List Int} (h : Led os q out r) : ∃ nw, r = out ++ nw := by
  induction h with
  | done out => exact ⟨[], by simp⟩
  | @new v q out r hf _ ih => obtain ⟨nw, h⟩ := ih; exact ⟨v.n :: nw, by rw [h]; simp⟩
  | old hf _ ih => exact ih
theorem Led.sub {os : List Ob} {q : List V} {out r : List Int} (h : Led os q out r) {n : Int} (hn : n ∈ out) : n ∈ r := by
  obtain ⟨nw, rfl⟩ := h.pre
  exact List.mem_append_left _ hn
theorem fresh_false {out : List Int} {v : V} (h : fresh out v = false) (hk : v.k = 2) : v.n ∈ out := by
  simpa [fresh, hk] using h
theorem Led.roots {os : List Ob} {q : List V} {out r : List Int} (h : Led os q out r) : ∀ v ∈ q, v.k = 2 → v.n ∈ r := by
  induction h with
  | done out => intro v hv; cases hv
  | @new v q out r hf h ih =>
    intro x hx hk
    rcases List.mem_cons.1 hx with rfl | hx
    · exact h.sub (by simp)
    · exact ih x (List.mem_append_left _ hx) hk
  | @old v q out r hf h ih =>
    intro x hx hk
    rcases List.mem_cons.1 hx with rfl | hx
    · exact h.sub (fresh_false hf hk)
    · exact ih x hx hk
theorem Led.closed {os : List Ob} {q : List V} {out r : List Int} (h : Led os q out r) (hc : ∀ n ∈ out, ∀ v ∈ fieldsOf os n, v.k = 2 → v.n ∈ out ∨ v ∈ q) :
    ∀ n ∈ r, ∀ v ∈ fieldsOf os n, v.k = 2 → v.n ∈ r := by
  induction h with
  | done out =>
    intro n hn v hv hk
    rcases hc n hn v hv hk with h | h
    · exact h
    · cases h
  | @new v q out r hf h ih =>
    refine ih (fun n hn x hx hk => ?_)
    rcases List.mem_append.1 hn with hn | hn
    · rcases hc n hn x hx hk with h | h
      · exact .inl (List.mem_append_left _ h)
      · rcases List.mem_cons.1 h with rfl | h
        · exact .inl (by simp)
        · exact .inr (List.mem_append_left _ h)
    · simp at hn
      subst hn
      exact .inr (List.mem_append_right _ hx)
  | @old v q out r hf h ih =>
    refine ih (fun n hn x hx hk => ?_)
    rcases hc n hn x hx hk with h | h
    · exact .inl h
    · rcases List.mem_cons.1 h with rfl | h
      · exact .inl (fresh_false hf hk)
      · exact .inr h
theorem Led.shut {os : List Ob} {q : List V} {r : List Int} (h : Led os q [] r) : ∀ n ∈ r, ∀ v ∈ fieldsOf os n, v.k = 2 → v.n ∈ r := h.closed (fun _ hn => by cases hn)
theorem Led.first {os : List Ob} {v : V} {q : List V} {r : List Int} (h : Led os (v :: q) [] r) (hk : v.k = 2) : r[0]? = some v.n := by
  cases h with
  | new hf h =>
    obtain ⟨nw, rfl⟩ := h.pre
    simp
  | old hf h => exact absurd (fresh_false hf hk) (by simp)
theorem Told.sizes {n : Nat} {out : List Int} {i : Int} (h : Told n (out ++ [i])) : out.length < n := by
  have := h.len
  simp at this
  omega
theorem led_ex {os : List Ob} {n : Nat} (hf : ∀ o ∈ os, RefsIn n o.fields) : ∀ (k : Nat) (q : List V) (out : List Int), Told n out → RefsIn n q → n - out.length ≤ k → ∃ r, Led os q out r ∧ Told n r
  | k, [], out, ht, _, _ => ⟨out, .done out, ht⟩
  | k, v :: q, out, ht, hq, hk => by
    by_cases hfr : fresh out v = true
    · have h2 := hfr
      simp [fresh] at h2
      have hv := hq v (by simp) h2.1
      have ht' := ht.snoc hv.1 hv.2 h2.2
      have hs := ht'.sizes
      match k, hk with
      | 0, hk => omega
      | k + 1, hk =>
        obtain ⟨r, hr, htr⟩ := led_ex hf k (q ++ fieldsOf os v.n) (out ++ [v.n]) ht' (fun x hx h => by
          rcases List.mem_append.1 hx with hx | hx
          · exact hq x (by simp [hx]) h
          · exact refs_fields hf _ x hx h) (by simp; omega)
        exact ⟨r, .new hfr hr, htr⟩
    · have hfr' : fresh out v = false := by simpa using hfr
      obtain ⟨r, hr, htr⟩ := led_ex hf k q out ht (fun x hx => hq x (by simp [hx])) hk
      exact ⟨r, .old hfr' hr, htr⟩
  termination_by k q => (k, q.length)
end Go.Proofs.Ytfafnjkinolkmaa
