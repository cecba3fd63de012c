/- What is known of registers at each instruction, in plain Lean: a round, and the rounds till nothing is another thing; that they end. No condition; no run. -/
import Derived.Test.YtabcjdalifhpdaaDoorJoin
import Derived.Test.YtabcjdalifhpdaaDoorSpecE
namespace Go.Proofs.YtabcjdalifhpdaaDoor
open Go.RowKit

def at8 (k : List Int) (i : Int) : Int := k.getD i.toNat 0
/-- What is known behind an instruction. -/
def laterP (k : List Int) (i : Ins) : List Int :=
  if i.op = 1 ∨ i.op = 2 ∨ i.op = 3 ∨ i.op = 4 ∨ i.op = 8 ∨ i.op = 16 then k.set i.a.toNat 1
  else if i.op = 7 then k.set i.a.toNat 3
  else if i.op = 10 then (k.set i.b.toNat 2).set i.a.toNat 2
  else if i.op = 11 then (if i.a = i.b ∨ at8 k i.b = 2 then k.set i.a.toNat 2 else k.set i.b.toNat 0)
  else if i.op = 12 then (if at8 k i.b = 3 then k.set i.b.toNat 0 else k).set i.a.toNat (at8 k i.b)
  else if i.op = 13 ∨ i.op = 18 then k.set i.a.toNat 0
  else if i.op = 17 then (k.set i.b.toNat 0).set i.a.toNat 1
  else k
/-- Where an instruction may go on. -/
def waysP (at_ : Int) (i : Ins) : List Int :=
  if i.op = 0 ∨ i.op = 19 then [] else if i.op = 6 then [at_ + i.n] else if i.op = 5 then [at_ + 1, at_ + i.n] else [at_ + 1]
/-- What is known, instruction by instruction; is anything another thing than it was? -/
abbrev Kn := List (List Int) × Bool
def stepT (k : List Int) (s : Kn) (t : Int) : Kn :=
  match s.1[t.toNat]? with
  | none => s
  | some [] => (s.1.set t.toNat k, true)
  | some (x :: xs) => (s.1.set t.toNat ((x :: xs).zipWith joinN k), s.2 || decide ((x :: xs).zipWith joinN k ≠ x :: xs))
def stepI (l : List Ins) (s : Kn) (i : Nat) : Kn :=
  match s.1[i]?, l[i]? with
  | some (x :: xs), some o => (waysP i o).foldl (stepT (laterP (x :: xs) o)) s
  | _, _ => s
def roundTo (l : List Ins) (st : List (List Int)) : Nat → Kn
  | 0 => (st, false)
  | k + 1 => stepI l (roundTo l st k) k
def roundP (l : List Ins) (st : List (List Int)) : Kn := roundTo l st l.length
inductive FlowP (l : List Ins) : List (List Int) → List (List Int) → Prop where
  | done {st : List (List Int)} (h : (roundP l st).2 = false) : FlowP l st (roundP l st).1
  | more {st r : List (List Int)} (h : (roundP l st).2 = true) (h' : FlowP l (roundP l st).1 r) : FlowP l st r
theorem FlowP.one {l : List Ins} {st r r' : List (List Int)} (h : FlowP l st r) (h' : FlowP l st r') : r = r' := by
  induction h with
  | done h => cases h' with
    | done _ => rfl
    | more g _ => rw [h] at g; cases g
  | more h _ ih => cases h' with
    | done g => rw [h] at g; cases g
    | more _ g => exact ih g
/-- What is known at the start. -/
def start8 (n : Nat) : List (List Int) := [3, 3, 0, 0, 0, 0, 0, 0] :: List.replicate (n - 1) []

/-- How much may still be forgotten. -/
def rk (t : Int) : Nat := if t = 3 then 2 else if t = 0 then 0 else 1
def rkR (k : List Int) : Nat := if k = [] then 17 else (k.map rk).sum
def rkS (st : List (List Int)) : Nat := (st.map rkR).sum
theorem rk_le (t : Int) : rk t ≤ 2 := by unfold rk; split <;> (try split) <;> omega
theorem rk_join (a b : Int) : rk (joinN a b) ≤ rk a ∧ (joinN a b ≠ a → rk (joinN a b) < rk a) := by
  unfold joinN
  split
  · simp
  · rename_i hab
    split
    · rename_i h
      simp [objB] at h
      rcases h.1 with rfl | rfl
      · simp [rk]
      · simp [rk]
    · simp only [rk]
      by_cases h0 : a = 0
      · subst h0; simp
      · simp [h0]
        split <;> omega
theorem rk_zip : ∀ (a k : List Int), a.length = k.length → ((a.zipWith joinN k).map rk).sum ≤ (a.map rk).sum ∧ (a.zipWith joinN k ≠ a → ((a.zipWith joinN k).map rk).sum < (a.map rk).sum)
  | [], [], _ => by simp
  | x :: a, y :: k, h => by
    have ih := rk_zip a k (by simpa using h)
    have h1 := rk_join x y
    simp only [List.zipWith_cons_cons, List.map_cons, List.sum_cons, ne_eq, List.cons.injEq, not_and]
    refine ⟨by omega, fun hne => ?_⟩
    by_cases hx : joinN x y = x
    · have := ih.2 (hne hx); omega
    · have := h1.2 hx; omega
theorem rk_row (k : List Int) (h : k.length = 8) : rkR k ≤ 16 := by
  unfold rkR
  match k, h with
  | [a, b, c, d, e, f, g, i], _ =>
    simp
    have := rk_le a; have := rk_le b; have := rk_le c; have := rk_le d; have := rk_le e; have := rk_le f; have := rk_le g; have := rk_le i
    omega
theorem sum_set : ∀ (l : List Nat) (i : Nat) (x : Nat) (h : i < l.length), (l.set i x).sum + l[i] = l.sum + x
  | [], _, _, h => by simp at h
  | y :: l, 0, x, _ => by simp; omega
  | y :: l, i + 1, x, h => by
    have := sum_set l i x (by simpa using h)
    simp
    omega
theorem rk_set {st : List (List Int)} {t : Nat} {k k' : List Int} (h : st[t]? = some k) : rkS (st.set t k') + rkR k = rkS st + rkR k' := by
  obtain ⟨hl, he⟩ := List.getElem?_eq_some_iff.1 h
  unfold rkS
  rw [List.map_set]
  have := sum_set (st.map rkR) t (rkR k') (by simpa using hl)
  simpa [he] using this
/-- Rows of eight, or none. -/
def Eights (st : List (List Int)) : Prop := ∀ k ∈ st, k = [] ∨ k.length = 8
theorem Eights.set {st : List (List Int)} (h : Eights st) {t : Nat} {k : List Int} (hk : k.length = 8) : Eights (st.set t k) := fun x hx => by
  rcases List.mem_or_eq_of_mem_set hx with h' | rfl
  · exact h x h'
  · exact .inr hk
theorem later_len {k : List Int} {i : Ins} : (laterP k i).length = k.length := by
  unfold laterP
  (repeat' split) <;> simp
/-- A step: rows stay rows, nothing is known that was not, and if it is another thing, less may be forgotten. -/
structure Down (s s' : Kn) : Prop where
  len : s'.1.length = s.1.length
  eights : Eights s.1 → Eights s'.1
  le : Eights s.1 → rkS s'.1 ≤ rkS s.1
  lt : Eights s.1 → s.2 = false → s'.2 = true → rkS s'.1 < rkS s.1
  flag : s.2 = true → s'.2 = true
  same : s'.2 = false → s'.1 = s.1
theorem Down.refl (s : Kn) : Down s s := ⟨rfl, id, fun _ => Nat.le_refl _, fun _ h h' => by (rw [h] at h'; cases h'), id, fun _ => rfl⟩
theorem Down.trans {s s' s2 : Kn} (h : Down s s') (h' : Down s' s2) : Down s s2 :=
  ⟨h'.len.trans h.len, fun e => h'.eights (h.eights e), fun e => Nat.le_trans (h'.le (h.eights e)) (h.le e), fun e hf ht => by
    cases hs : s'.2
    · exact Nat.lt_of_lt_of_le (h'.lt (h.eights e) hs ht) (h.le e)
    · exact Nat.lt_of_le_of_lt (h'.le (h.eights e)) (h.lt e hf hs), fun hf => h'.flag (h.flag hf), fun hf => by
    have hs : s'.2 = false := by
      cases hs : s'.2
      · rfl
      · have := h'.flag hs; rw [hf] at this; cases this
    rw [h'.same hf, h.same hs]⟩
theorem stepT_down {k : List Int} (hk : k.length = 8) (s : Kn) (t : Int) : Down s (stepT k s t) := by
  unfold stepT
  split
  · exact .refl s
  · rename_i h
    have hr := rk_set (k' := k) h
    have h8 := rk_row k hk
    have h17 : rkR [] = 17 := rfl
    exact ⟨by simp, fun e => e.set hk, fun _ => by show rkS (s.1.set _ k) ≤ _; omega, fun _ _ _ => by show rkS (s.1.set _ k) < _; omega, fun _ => rfl, fun h => by cases h⟩
  · rename_i x xs h
    have hr := rk_set (k' := (x :: xs).zipWith joinN k) h
    have hlen : Eights s.1 → (x :: xs).length = k.length := fun e => by
      rcases e _ (List.mem_of_getElem? h) with h | h
      · cases h
      · rw [h, hk]
    have hz : Eights s.1 → rkR ((x :: xs).zipWith joinN k) ≤ rkR (x :: xs) ∧ ((x :: xs).zipWith joinN k ≠ x :: xs → rkR ((x :: xs).zipWith joinN k) < rkR (x :: xs)) := fun e => by
      have h1 := rk_zip (x :: xs) k (hlen e)
      have h2 : (x :: xs).zipWith joinN k ≠ [] := by
        have := hlen e
        match k, this with
        | y :: k, _ => simp
      unfold rkR
      rw [if_neg h2, if_neg (by simp)]
      exact h1
    refine ⟨by simp, fun e => e.set (by have := hlen e; simp at this ⊢; omega), fun e => by have := (hz e).1; show rkS (s.1.set _ _) ≤ _; omega, fun e hf ht => ?_, fun hf => by simp [hf], fun hf => ?_⟩
    · simp [hf] at ht
      have := (hz e).2 (by simpa using ht)
      show rkS (s.1.set _ _) < _
      omega
    · simp only [Bool.or_eq_false_iff, decide_eq_false_iff_not, Decidable.not_not] at hf
      show s.1.set t.toNat _ = s.1
      rw [hf.2]
      obtain ⟨hl, he⟩ := List.getElem?_eq_some_iff.1 h
      rw [← he, List.set_getElem_self]
theorem foldT_down {k : List Int} (hk : k.length = 8) : ∀ (l : List Int) (s : Kn), Down s (l.foldl (stepT k) s)
  | [], s => .refl s
  | t :: l, s => (stepT_down hk s t).trans (foldT_down hk l _)
theorem stepI_down {l : List Ins} {s : Kn} (he : Eights s.1) (i : Nat) : Down s (stepI l s i) := by
  unfold stepI
  split
  · rename_i x xs o h1 h2
    refine foldT_down ?_ _ _
    rw [later_len]
    rcases he _ (List.mem_of_getElem? h1) with h | h
    · cases h
    · exact h
  · exact .refl s
theorem roundTo_down {l : List Ins} {st : List (List Int)} (he : Eights st) : ∀ k, Down (st, false) (roundTo l st k)
  | 0 => .refl _
  | k + 1 => (roundTo_down he k).trans (stepI_down ((roundTo_down he k).eights he) k)
theorem start_eights (n : Nat) : Eights (start8 n) := fun k hk => by
  rcases List.mem_cons.1 hk with rfl | hk
  · exact .inr rfl
  · exact .inl (List.mem_replicate.1 hk).2
theorem flow_ex {l : List Ins} : ∀ (n : Nat) (st : List (List Int)), Eights st → rkS st ≤ n → ∃ r, FlowP l st r
  | n, st, he, hn => by
    have hd := roundTo_down (l := l) he l.length
    cases h : (roundP l st).2
    · exact ⟨_, .done h⟩
    · have hlt := hd.lt he rfl h
      match n with
      | 0 => have h0 : rkS (roundTo l st l.length).1 < rkS st := hlt; omega
      | n + 1 =>
        obtain ⟨r, hr⟩ := flow_ex n (roundP l st).1 (hd.eights he) (by have h0 : rkS (roundTo l st l.length).1 < rkS st := hlt; unfold roundP; omega)
        exact ⟨r, .more h hr⟩
/-- What is known of a behavior. -/
noncomputable def flowL (l : List Ins) : List (List Int) := Classical.choose (flow_ex (l := l) _ (start8 l.length) (start_eights _) (Nat.le_refl _))
theorem flowL_is {l : List Ins} {r : List (List Int)} (h : FlowP l (start8 l.length) r) : flowL l = r := (Classical.choose_spec (flow_ex (l := l) _ (start8 l.length) (start_eights _) (Nat.le_refl _))).one h
theorem flowL_flow (l : List Ins) : FlowP l (start8 l.length) (flowL l) := Classical.choose_spec (flow_ex (l := l) _ (start8 l.length) (start_eights _) (Nat.le_refl _))
theorem FlowP.keeps {l : List Ins} {st r : List (List Int)} (h : FlowP l st r) (he : Eights st) : r.length = st.length ∧ Eights r := by
  induction h with
  | @done st h => exact ⟨(roundTo_down he _).len, (roundTo_down he _).eights he⟩
  | @more st r h _ ih =>
    have hd := roundTo_down (l := l) he l.length
    obtain ⟨h1, h2⟩ := ih (hd.eights he)
    exact ⟨h1.trans hd.len, h2⟩
theorem flowL_len {l : List Ins} (h : l ≠ []) : (flowL l).length = l.length := by
  rw [((flowL_flow l).keeps (start_eights _)).1]
  have : l.length ≠ 0 := by simpa using h
  simp [start8]
  omega
theorem flowL_eights (l : List Ins) : Eights (flowL l) := ((flowL_flow l).keeps (start_eights _)).2
/-- What is known at the end: a round changes nothing of it. -/
theorem FlowP.shut {l : List Ins} {st r : List (List Int)} (h : FlowP l st r) (he : Eights st) : roundP l r = (r, false) := by
  induction h with
  | @done st h =>
    have := (roundTo_down (l := l) he l.length).same h
    have h1 : (roundP l st).1 = st := this
    rw [h1]
    exact Prod.ext h1 h
  | @more st r h _ ih => exact ih ((roundTo_down (l := l) he l.length).eights he)
end Go.Proofs.YtabcjdalifhpdaaDoor
