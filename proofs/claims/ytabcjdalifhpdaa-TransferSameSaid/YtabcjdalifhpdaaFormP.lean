/- The form of what values lead to, in plain Lean: it is the same for heaps that are the same but for places. No condition; no run. -/
import Derived.Test.YtabcjdalifhpdaaLed
import Derived.Test.YtabcjdalifhpdaaAlloc
import Derived.Test.YtabcjdalifhpdaaReach
namespace Go.Proofs.Ytabcjdalifhpdaa
def encV (r : List Int) (v : V) : List Int := if v.k = 2 then [2, (r.idxOf v.n : Int)] else [v.k, v.n]
def encL (r : List Int) (l : List V) : List Int := (l.map (encV r)).flatten
def objF (os : List Ob) (r : List Int) (n : Int) : List Int := -1 :: ((fieldsOf os n).length : Int) :: encL r (fieldsOf os n)
def formR (os : List Ob) (roots : List V) (r : List Int) : List Int := encL r roots ++ (r.map (objF os r)).flatten
noncomputable def formL (os : List Ob) (roots : List V) : List Int := formR os roots (reachL os roots)
theorem idx_map {f : Int → Int} : ∀ {l : List Int} {x : Int}, (∀ a ∈ l, ∀ b ∈ l, f a = f b → a = b) → x ∈ l → (l.map f).idxOf (f x) = l.idxOf x
 | [], _, _, h => by cases h
 | a :: l, x, hi, h => by
  rw [List.map_cons, List.idxOf_cons, List.idxOf_cons];by_cases hax : a = x
  ·subst hax; simp
  ·have hne : f a ≠ f x := fun e => hax (hi a (by simp) x h e);have h' : x ∈ l := (List.mem_cons.1 h).resolve_left (Ne.symm hax);rw [show (f a == f x) = false by simpa using hne, show (a == x) = false by simpa using hax];simp only [cond_false];rw [idx_map (fun a ha b hb => hi a (by simp [ha]) b (by simp [hb])) h']
theorem newV_k {f : Int → Int} (v : V) : (newV f v).k = v.k := by
 unfold newV;split
 ·rename_i h; exact h.symm
 ·rfl
theorem newV_ref {f : Int → Int} {v : V} (h : v.k = 2) : newV f v = ⟨2, f v.n⟩ := if_pos h
theorem newV_no {f : Int → Int} {v : V} (h : v.k ≠ 2) : newV f v = v := if_neg h
theorem Led.iso {os os' : List Ob} {f : Int → Int} {S : Int → Prop} (hi : ∀ a b, S a → S b → f a = f b → a = b) (hf : ∀ x, S x → fieldsOf os' (f x) = (fieldsOf os x).map (newV f)) (hS : ∀ x, S x → ∀ v ∈ fieldsOf os x, v.k = 2 → S v.n) :
  ∀ {q : List V} {out r : List Int}, Led os q out r → (∀ v ∈ q, v.k = 2 → S v.n) → (∀ x ∈ out, S x) → Led os' (q.map (newV f)) (out.map f) (r.map f) := by
 intro q out r h;induction h with
 | done out => exact fun _ _ => .done _
 | @new v q out r hv _ ih =>
  intro hq ho;simp [fresh] at hv
  have hs := hq v (by simp) hv.1;have hn : f v.n ∉ out.map f := fun hm => by
   obtain ⟨x, hx, e⟩ := List.mem_map.1 hm;exact hv.2 (hi x v.n (ho x hx) hs e ▸ hx)
  rw [List.map_cons, newV_ref hv.1];refine .new (v := ⟨2, f v.n⟩) (by simp [fresh]; simpa using hn) ?_;have := ih (fun x hx hk => by
   rcases List.mem_append.1 hx with hx | hx
   ·exact hq x (by simp [hx]) hk
   ·exact hS v.n hs x hx hk) (fun x hx => by
   rcases List.mem_append.1 hx with hx | hx
   ·exact ho x hx
   ·simp at hx; subst hx; exact hs)
  simpa [hf v.n hs] using this
 | @old v q out r hv _ ih =>
  intro hq ho;have hv' : fresh (out.map f) (newV f v) = false := by
   by_cases hk : v.k = 2
   ·have hm : v.n ∈ out := (by simpa [fresh, hk] using hv);rw [newV_ref hk];simp only [fresh, Bool.and_eq_false_iff];exact .inr (by simpa using ⟨v.n, hm, rfl⟩)
   ·rw [newV_no hk]; simp [fresh, hk]
  rw [List.map_cons];exact .old hv' (ih (fun x hx => hq x (by simp [hx])) ho)
theorem encV_iso {f : Int → Int} {r : List Int} (hi : ∀ a ∈ r, ∀ b ∈ r, f a = f b → a = b) {v : V} (h : v.k = 2 → v.n ∈ r) : encV (r.map f) (newV f v) = encV r v := by
 unfold encV;rw [newV_k];by_cases hk : v.k = 2
 ·rw [if_pos hk, if_pos hk, newV_ref hk];show [2, (((r.map f).idxOf (f v.n) : Nat) : Int)] = _
  rw [idx_map hi (h hk)]
 ·rw [if_neg hk, if_neg hk, newV_no hk]
theorem encL_iso {f : Int → Int} {r : List Int} (hi : ∀ a ∈ r, ∀ b ∈ r, f a = f b → a = b) {l : List V} (h : ∀ v ∈ l, v.k = 2 → v.n ∈ r) : encL (r.map f) (l.map (newV f)) = encL r l := by
 unfold encL;rw [List.map_map];congr 1
 exact List.map_congr_left (fun v hv => encV_iso hi (h v hv))
theorem form_iso {os os' : List Ob} {f : Int → Int} {roots : List V} {r : List Int} (h : Led os roots [] r) (hi : ∀ a ∈ r, ∀ b ∈ r, f a = f b → a = b) (hf : ∀ x ∈ r, fieldsOf os' (f x) = (fieldsOf os x).map (newV f)) :
  reachL os' (roots.map (newV f)) = r.map f ∧ formL os' (roots.map (newV f)) = formL os roots := by
 have h1 : Led os' (roots.map (newV f)) ([].map f) (r.map f) := h.iso (S := fun x => x ∈ r) (fun a b ha hb => hi a ha b hb) hf (fun x hx v hv hk => h.shut x hx v hv hk) (fun v hv hk => h.roots v hv hk) (fun x hx => by cases hx);have h2 := reachL_is h1;refine ⟨h2, ?_⟩;unfold formL;rw [h2, reachL_is h];unfold formR;rw [encL_iso hi h.roots, List.map_map];congr 2
 refine List.map_congr_left (fun x hx => ?_);show objF os' (r.map f) (f x) = objF os r x
 unfold objF;rw [hf x hx, encL_iso hi (h.shut x hx), List.length_map]
end Go.Proofs.Ytabcjdalifhpdaa
