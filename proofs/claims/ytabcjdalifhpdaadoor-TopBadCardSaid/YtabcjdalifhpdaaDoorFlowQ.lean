/- What is known of a behavior, in plain Lean: no more than on any way, and at its start. No condition; no run. -/
import Derived.Test.YtabcjdalifhpdaaDoorFlowM
namespace Go.Proofs.YtabcjdalifhpdaaDoor
open Go.RowKit
theorem fold_same {k : List Int} (hk : k.length = 8) : ∀ (ts : List Int) (s : Kn), (ts.foldl (stepT k) s).2 = false → s.2 = false → ∀ t ∈ ts, stepT k s t = s
 | [], _, _, _, t, ht => by cases ht
 | t0 :: r, s, h, hs, t, ht => by
  rw [List.foldl_cons] at h;have h1 : (stepT k s t0).2 = false := by
   cases hb : (stepT k s t0).2
   ·rfl
   ·rw [(foldT_down hk r _).flag hb] at h; cases h
  have h2 : stepT k s t0 = s := Prod.ext ((stepT_down hk s t0).same h1) (by rw [h1, hs]);rw [h2] at h;rcases List.mem_cons.1 ht with rfl | ht
  ·exact h2
  ·exact fold_same hk r s h hs t ht
theorem round_same {l : List Ins} {st : List (List Int)} (he : Eights st) (h : (roundTo l st l.length).2 = false) : ∀ k, k ≤ l.length → roundTo l st k = (st, false) := by
 have key : ∀ d k, k + d = l.length → (roundTo l st k).2 = false := by
  intro d;induction d with
  | zero => intro k hk; rw [Nat.add_zero] at hk; rw [hk]; exact h
  | succ d ih =>
   intro k hk;have h1 := ih (k + 1) (by omega)
   cases hb : (roundTo l st k).2
   ·rfl
   ·have := (stepI_down (l := l) ((roundTo_down (l := l) he k).eights he) k).flag hb;rw [show (stepI l (roundTo l st k) k) = roundTo l st (k + 1) from rfl, h1] at this
    cases this
 intro k hk;have h2 := key (l.length - k) k (by omega);exact Prod.ext ((roundTo_down he k).same h2) h2
theorem flow_way {l : List Ins} {i : Nat} {k : List Int} {o : Ins} (hk : (flowL l)[i]? = some k) (hne : k ≠ []) (ho : l[i]? = some o) {t : Int} (ht : t ∈ waysP i o) (htl : t.toNat < l.length) :
  ∃ k', (flowL l)[t.toNat]? = some k' ∧ k'.length = 8 ∧ k'.zipWith joinN (laterP k o) = k' := by
 have hil : i < l.length := (List.getElem?_eq_some_iff.1 ho).1;have hl0 : l ≠ [] := fun e => by rw [e] at hil; exact absurd hil (Nat.not_lt_zero _)
 have he := flowL_eights l;have hs := (flowL_flow l).shut (start_eights _);have h0 : (roundTo l (flowL l) l.length).2 = false := by
  have : roundP l (flowL l) = (flowL l, false) := hs;unfold roundP at this;rw [this]
 have h1 := round_same he h0 (i + 1) (by omega);have h2 := round_same he h0 i (by omega);have h3 : stepI l (flowL l, false) i = (flowL l, false) := by
  rw [show roundTo l (flowL l) (i + 1) = stepI l (roundTo l (flowL l) i) i from rfl, h2] at h1;exact h1
 have h8 : k.length = 8 := (he k (List.mem_of_getElem? hk)).resolve_left hne;match k, hne, h8 with
 | x :: xs, _, h8 =>
  unfold stepI at h3;simp only [hk, ho] at h3;have h9 : (laterP (x :: xs) o).length = 8 := (by rw [later_len]; exact h8);have h4 := fold_same h9 _ (flowL l, false) (by rw [h3]) rfl t ht;unfold stepT at h4;have hlen := flowL_len hl0;have hget : (flowL l)[t.toNat]? = some ((flowL l)[t.toNat]'(by rw [hlen]; exact htl)) := List.getElem?_eq_getElem _;generalize (flowL l)[t.toNat]'(by rw [hlen]; exact htl) = q at hget;simp only [hget] at h4;match q, hget, h4 with
  | [], _, h4 => injection h4 with _ h4; cases h4
  | y :: ys, hget, h4 =>
   refine ⟨y :: ys, hget, (he _ (List.mem_of_getElem? hget)).resolve_left (by simp), ?_⟩;simp only at h4;injection h4 with _ h4
   simpa using h4
def Weak (k k' : List Int) : Prop := k'.length = 8 ∧ ∀ r : Nat, k'[r]? = k[r]? ∨ k'[r]? = some 0 ∨ (k'[r]? = some 2 ∧ (k[r]? = some 2 ∨ k[r]? = some 3))
theorem Weak.refl {k : List Int} (h : k.length = 8) : Weak k k := ⟨h, fun _ => .inl rfl⟩
theorem Weak.trans {a b c : List Int} (h : Weak a b) (h' : Weak b c) : Weak a c := ⟨h'.1, fun r => by
 rcases h'.2 r with h1 | h1 | ⟨h1, h2⟩
 ·rw [h1]; exact h.2 r
 ·exact .inr (.inl h1)
 ·rcases h.2 r with g1 | g1 | ⟨g1, g2⟩
  ·rw [← g1]; exact .inr (.inr ⟨h1, h2⟩)
  ·rw [g1] at h2; rcases h2 with h2 | h2 <;> cases h2
  ·exact .inr (.inr ⟨h1, g2⟩)⟩
theorem join_weak (a b : Int) : joinN a b = a ∨ joinN a b = 0 ∨ (joinN a b = 2 ∧ (a = 2 ∨ a = 3)) := by
 unfold joinN;split
 ·exact .inl rfl
 ·split
  ·rename_i h
   simp [objB] at h
   exact .inr (.inr ⟨rfl, h.1⟩)
  ·exact .inr (.inl rfl)
theorem zip_weak {a k : List Int} (ha : a.length = 8) (hk : k.length = 8) : Weak a (a.zipWith joinN k) := ⟨by simp [ha, hk], fun r => by
 rw [List.getElem?_zipWith];by_cases hr : r < 8
 ·rw [List.getElem?_eq_getElem (by omega : r < a.length), List.getElem?_eq_getElem (by omega : r < k.length)];simp only [Option.some.injEq];exact join_weak _ _
 ·rw [List.getElem?_eq_none (by omega : a.length ≤ r)];exact .inl rfl⟩
theorem join_comm (a b : Int) : joinN a b = joinN b a := by
 unfold joinN;by_cases h : a = b
 ·simp [h]
 ·rw [if_neg h, if_neg (Ne.symm h), Bool.and_comm]
theorem join_to {a b : Int} (h : joinN a b = a) : a = b ∨ a = 0 ∨ (a = 2 ∧ (b = 2 ∨ b = 3)) := by
 have := join_weak b a;rw [join_comm, h] at this;exact this
theorem fix_weak {k k' : List Int} (h8 : k'.length = 8) (hk : k.length = 8) (h : k'.zipWith joinN k = k') : Weak k k' := ⟨h8, fun r => by
 by_cases hr : r < 8
 ·have h1 : (k'.zipWith joinN k)[r]? = k'[r]? := (by rw [h]);rw [List.getElem?_zipWith, List.getElem?_eq_getElem (by omega : r < k.length), List.getElem?_eq_getElem (by omega : r < k'.length)] at h1;rw [List.getElem?_eq_getElem (by omega : r < k.length), List.getElem?_eq_getElem (by omega : r < k'.length)];simp only [Option.some.injEq] at h1 ⊢;exact join_to h1
 ·rw [List.getElem?_eq_none (by omega : k'.length ≤ r), List.getElem?_eq_none (by omega : k.length ≤ r)];exact .inl rfl⟩
theorem stepT_weak {k : List Int} (hk : k.length = 8) (s : Kn) (he : Eights s.1) (t : Int) {i : Nat} {x : List Int} (hx : s.1[i]? = some x) (hne : x ≠ []) : ∃ y, (stepT k s t).1[i]? = some y ∧ Weak x y := by
 have h8 : x.length = 8 := (he x (List.mem_of_getElem? hx)).resolve_left hne;unfold stepT;split
 ·exact ⟨x, hx, .refl h8⟩
 ·rename_i h
  by_cases hi : t.toNat = i
  ·subst hi; rw [hx] at h; injection h with h; exact absurd h hne
  ·exact ⟨x, by show (s.1.set _ _)[i]? = _; rw [List.getElem?_set, if_neg hi]; exact hx, .refl h8⟩
 ·rename_i y ys h
  by_cases hi : t.toNat = i
  ·subst hi;rw [hx] at h;injection h with h
   subst h;exact ⟨_, by show (s.1.set _ _)[t.toNat]? = _; rw [List.getElem?_set, if_pos rfl, if_pos (List.getElem?_eq_some_iff.1 hx).1], zip_weak h8 hk⟩
  ·exact ⟨x, by show (s.1.set _ _)[i]? = _; rw [List.getElem?_set, if_neg hi]; exact hx, .refl h8⟩
theorem foldT_weak {k : List Int} (hk : k.length = 8) : ∀ (ts : List Int) (s : Kn), Eights s.1 → ∀ {i : Nat} {x : List Int}, s.1[i]? = some x → x ≠ [] → ∃ y, (ts.foldl (stepT k) s).1[i]? = some y ∧ Weak x y
 | [], s, he, i, x, hx, hne => ⟨x, hx, .refl ((he x (List.mem_of_getElem? hx)).resolve_left hne)⟩
 | t :: ts, s, he, i, x, hx, hne => by
  obtain ⟨y, hy, hw⟩ := stepT_weak hk s he t hx hne;have hyn : y ≠ [] := fun e => by have := hw.1; rw [e] at this; cases this
  obtain ⟨z, hz, hw'⟩ := foldT_weak hk ts _ ((stepT_down hk s t).eights he) hy hyn;exact ⟨z, hz, hw.trans hw'⟩
theorem roundTo_weak {l : List Ins} {st : List (List Int)} (he : Eights st) {i : Nat} {x : List Int} (hx : st[i]? = some x) (hne : x ≠ []) : ∀ k, ∃ y, (roundTo l st k).1[i]? = some y ∧ Weak x y
 | 0 => ⟨x, hx, .refl ((he x (List.mem_of_getElem? hx)).resolve_left hne)⟩
 | k + 1 => by
  obtain ⟨y, hy, hw⟩ := roundTo_weak (l := l) he hx hne k;have he' := (roundTo_down (l := l) he k).eights he;have hyn : y ≠ [] := fun e => by have := hw.1; rw [e] at this; cases this
  show ∃ z, (stepI l (roundTo l st k) k).1[i]? = some z ∧ Weak x z
  unfold stepI;split
  ·rename_i y0 ys o h1 h2
   have h8 : (laterP (y0 :: ys) o).length = 8 := by
    rw [later_len];exact (he' _ (List.mem_of_getElem? h1)).resolve_left (by simp)
   obtain ⟨z, hz, hw'⟩ := foldT_weak h8 (waysP k o) _ he' hy hyn;exact ⟨z, hz, hw.trans hw'⟩
  ·exact ⟨y, hy, hw⟩
theorem FlowP.weak {l : List Ins} {st r : List (List Int)} (h : FlowP l st r) (he : Eights st) {i : Nat} {x : List Int} (hx : st[i]? = some x) (hne : x ≠ []) : ∃ y, r[i]? = some y ∧ Weak x y := by
 induction h generalizing x with
 | @done st h => exact roundTo_weak he hx hne l.length
 | @more st r h _ ih =>
  obtain ⟨y, hy, hw⟩ := roundTo_weak (l := l) he hx hne l.length;have hyn : y ≠ [] := fun e => by have := hw.1; rw [e] at this; cases this
  obtain ⟨z, hz, hw'⟩ := ih ((roundTo_down (l := l) he l.length).eights he) hy hyn;exact ⟨z, hz, hw.trans hw'⟩
theorem flow_first (l : List Ins) : ∃ k, (flowL l)[0]? = some k ∧ Weak [3, 3, 0, 0, 0, 0, 0, 0] k := (flowL_flow l).weak (start_eights _) rfl (by simp)
theorem stepT_zero {k : List Int} (s : Kn) {t : Int} (ht : 0 < t) : (stepT k s t).1[0]? = s.1[0]? := by
 unfold stepT;split
 ·rfl
 ·show (s.1.set _ _)[0]? = _
  rw [List.getElem?_set, if_neg (by omega)]
 ·show (s.1.set _ _)[0]? = _
  rw [List.getElem?_set, if_neg (by omega)]
theorem foldT_zero {k : List Int} : ∀ (ts : List Int) (s : Kn), (∀ t ∈ ts, 0 < t) → (ts.foldl (stepT k) s).1[0]? = s.1[0]?
 | [], _, _ => rfl
 | t :: ts, s, h => by
  rw [List.foldl_cons, foldT_zero ts _ (fun t ht => h t (by simp [ht])), stepT_zero s (h t (by simp))]
theorem roundTo_zero {l : List Ins} {st : List (List Int)} (h : ∀ (i : Nat) (o : Ins), l[i]? = some o → ∀ t ∈ waysP i o, 0 < t) : ∀ k, (roundTo l st k).1[0]? = st[0]?
 | 0 => rfl
 | k + 1 => by
  show (stepI l (roundTo l st k) k).1[0]? = _
  unfold stepI;split
  ·rename_i y0 ys o h1 h2
   rw [foldT_zero _ _ (h k o h2), roundTo_zero h k]
  ·exact roundTo_zero h k
theorem flow_zero {l : List Ins} (h : ∀ (i : Nat) (o : Ins), l[i]? = some o → ∀ t ∈ waysP i o, 0 < t) : (flowL l)[0]? = some [3, 3, 0, 0, 0, 0, 0, 0] := by
 have key : ∀ st r, FlowP l st r → r[0]? = st[0]? := fun st r hf => by
  induction hf with
  | @done st _ => exact roundTo_zero h _
  | @more st r _ _ ih => rw [ih]; exact roundTo_zero h _
 rw [key _ _ (flowL_flow l)];rfl
end Go.Proofs.YtabcjdalifhpdaaDoor
