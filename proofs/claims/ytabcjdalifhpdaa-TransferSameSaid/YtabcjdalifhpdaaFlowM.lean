/- What is known of registers at each instruction, in plain Lean: a round, and the rounds till nothing is another thing; that they end. No condition; no run. The walk of verify.behind. Condition: registers are in their bounds. The walks of verify.right and verify.next. Condition: registers, the operator and places are in their bounds. What verify.flow holds in memory, told by the plain flow; which behaviors it is asked of. No condition; no run. -/
import Derived.Test.YtabcjdalifhpdaaJoin
import Derived.Test.YtabcjdalifhpdaaSpecE
import Derived.Test.YtabcjdalifhpdaaSt
import Derived.Deep.CutRange
import Derived.Test.YtabcjdalifhpdaaStB
namespace Go.Proofs.Ytabcjdalifhpdaa
section
open Go.RowKit
def at8 (k : List Int) (i : Int) : Int := k.getD i.toNat 0
def laterP (k : List Int) (i : Ins) : List Int :=
 if i.op = 1 ∨ i.op = 2 ∨ i.op = 3 ∨ i.op = 4 ∨ i.op = 8 ∨ i.op = 16 then k.set i.a.toNat 1
 else if i.op = 7 then k.set i.a.toNat 3
 else if i.op = 10 then (k.set i.b.toNat 2).set i.a.toNat 2
 else if i.op = 11 then (if i.a = i.b ∨ at8 k i.b = 2 then k.set i.a.toNat 2 else k.set i.b.toNat 0)
 else if i.op = 12 then (if at8 k i.b = 3 then k.set i.b.toNat 0 else k).set i.a.toNat (at8 k i.b)
 else if i.op = 13 ∨ i.op = 18 then k.set i.a.toNat 0
 else if i.op = 17 then (k.set i.b.toNat 0).set i.a.toNat 1
 else k
def waysP (at_ : Int) (i : Ins) : List Int :=
 if i.op = 0 ∨ i.op = 19 then [] else if i.op = 6 then [at_ + i.n] else if i.op = 5 then [at_ + 1, at_ + i.n] else [at_ + 1]
abbrev Kn := List (List Int) × Bool
def stepT (k : List Int) (s : Kn) (t : Int) : Kn :=
 match s.1[t.toNat]? with
 | none => s
 | some [] => (s.1.set t.toNat k, true)
 | some (x :: xs) => (s.1.set t.toNat ((x :: xs).zipWith joinN k), s.2 || decide ((x :: xs).zipWith joinN k ≠ x :: xs))
def stepI (l : List Ins) (s : Kn) (i : Nat) : Kn :=
 match s.1[i]?, l[i]? with
 | some (x :: xs), some o => (waysP i o).foldl (stepT (laterP (x :: xs) o)) s
 | _, _ => s
def roundTo (l : List Ins) (st : List (List Int)) : Nat → Kn
 | 0 => (st, false)
 | k + 1 => stepI l (roundTo l st k) k
def roundP (l : List Ins) (st : List (List Int)) : Kn := roundTo l st l.length
inductive FlowP (l : List Ins) : List (List Int) → List (List Int) → Prop where
 | done {st : List (List Int)} (h : (roundP l st).2 = false) : FlowP l st (roundP l st).1
 | more {st r : List (List Int)} (h : (roundP l st).2 = true) (h' : FlowP l (roundP l st).1 r) : FlowP l st r
theorem FlowP.one {l : List Ins} {st r r' : List (List Int)} (h : FlowP l st r) (h' : FlowP l st r') : r = r' := by
 induction h with
 | done h => cases h' with
  | done _ => rfl
  | more g _ => rw [h] at g; cases g
 | more h _ ih => cases h' with
  | done g => rw [h] at g; cases g
  | more _ g => exact ih g
def start8 (n : Nat) : List (List Int) := [3, 3, 0, 0, 0, 0, 0, 0] :: List.replicate (n - 1) []
def rk (t : Int) : Nat := if t = 3 then 2 else if t = 0 then 0 else 1
def rkR (k : List Int) : Nat := if k = [] then 17 else (k.map rk).sum
def rkS (st : List (List Int)) : Nat := (st.map rkR).sum
theorem rk_le (t : Int) : rk t ≤ 2 := by unfold rk; split <;> (try split) <;> omega
theorem rk_join (a b : Int) : rk (joinN a b) ≤ rk a ∧ (joinN a b ≠ a → rk (joinN a b) < rk a) := by
 unfold joinN;split
 ·simp
 ·rename_i hab
  split
  ·rename_i h
   simp [objB] at h
   rcases h.1 with rfl | rfl
   ·simp [rk]
   ·simp [rk]
  ·simp only [rk];by_cases h0 : a = 0
   ·subst h0; simp
   ·simp [h0]
    split <;> omega
theorem rk_zip : ∀ (a k : List Int), a.length = k.length → ((a.zipWith joinN k).map rk).sum ≤ (a.map rk).sum ∧ (a.zipWith joinN k ≠ a → ((a.zipWith joinN k).map rk).sum < (a.map rk).sum)
 | [], [], _ => by simp
 | x :: a, y :: k, h => by
  have ih := rk_zip a k (by simpa using h);have h1 := rk_join x y;simp only [List.zipWith_cons_cons, List.map_cons, List.sum_cons, ne_eq, List.cons.injEq, not_and];refine ⟨by omega, fun hne => ?_⟩;by_cases hx : joinN x y = x
  ·have := ih.2 (hne hx); omega
  ·have := h1.2 hx; omega
theorem rk_row (k : List Int) (h : k.length = 8) : rkR k ≤ 16 := by
 unfold rkR;match k, h with
 | [a, b, c, d, e, f, g, i], _ =>
  simp
  have := rk_le a; have := rk_le b; have := rk_le c; have := rk_le d; have := rk_le e; have := rk_le f; have := rk_le g; have := rk_le i;omega
theorem sum_set : ∀ (l : List Nat) (i : Nat) (x : Nat) (h : i < l.length), (l.set i x).sum + l[i] = l.sum + x
 | [], _, _, h => by simp at h
 | y :: l, 0, x, _ => by simp; omega
 | y :: l, i + 1, x, h => by
  have := sum_set l i x (by simpa using h);simp
  omega
theorem rk_set {st : List (List Int)} {t : Nat} {k k' : List Int} (h : st[t]? = some k) : rkS (st.set t k') + rkR k = rkS st + rkR k' := by
 obtain ⟨hl, he⟩ := List.getElem?_eq_some_iff.1 h;unfold rkS;rw [List.map_set];have := sum_set (st.map rkR) t (rkR k') (by simpa using hl);simpa [he] using this
def Eights (st : List (List Int)) : Prop := ∀ k ∈ st, k = [] ∨ k.length = 8
theorem Eights.set {st : List (List Int)} (h : Eights st) {t : Nat} {k : List Int} (hk : k.length = 8) : Eights (st.set t k) := fun x hx => by
 rcases List.mem_or_eq_of_mem_set hx with h' | rfl
 ·exact h x h'
 ·exact .inr hk
theorem later_len {k : List Int} {i : Ins} : (laterP k i).length = k.length := by
 unfold laterP;(repeat' split) <;> simp
structure Down (s s' : Kn) : Prop where
 len : s'.1.length = s.1.length
 eights : Eights s.1 → Eights s'.1
 le : Eights s.1 → rkS s'.1 ≤ rkS s.1
 lt : Eights s.1 → s.2 = false → s'.2 = true → rkS s'.1 < rkS s.1
 flag : s.2 = true → s'.2 = true
 same : s'.2 = false → s'.1 = s.1
theorem Down.refl (s : Kn) : Down s s := ⟨rfl, id, fun _ => Nat.le_refl _, fun _ h h' => by (rw [h] at h'; cases h'), id, fun _ => rfl⟩
theorem Down.trans {s s' s2 : Kn} (h : Down s s') (h' : Down s' s2) : Down s s2 :=
 ⟨h'.len.trans h.len, fun e => h'.eights (h.eights e), fun e => Nat.le_trans (h'.le (h.eights e)) (h.le e), fun e hf ht => by
  cases hs : s'.2
  ·exact Nat.lt_of_lt_of_le (h'.lt (h.eights e) hs ht) (h.le e)
  ·exact Nat.lt_of_le_of_lt (h'.le (h.eights e)) (h.lt e hf hs), fun hf => h'.flag (h.flag hf), fun hf => by
  have hs : s'.2 = false := by
   cases hs : s'.2
   ·rfl
   ·have := h'.flag hs; rw [hf] at this; cases this
  rw [h'.same hf, h.same hs]⟩
theorem stepT_down {k : List Int} (hk : k.length = 8) (s : Kn) (t : Int) : Down s (stepT k s t) := by
 unfold stepT;split
 ·exact .refl s
 ·rename_i h
  have hr := rk_set (k' := k) h;have h8 := rk_row k hk;have h17 : rkR [] = 17 := rfl;exact ⟨by simp, fun e => e.set hk, fun _ => by show rkS (s.1.set _ k) ≤ _; omega, fun _ _ _ => by show rkS (s.1.set _ k) < _; omega, fun _ => rfl, fun h => by cases h⟩
 ·rename_i x xs h
  have hr := rk_set (k' := (x :: xs).zipWith joinN k) h;have hlen : Eights s.1 → (x :: xs).length = k.length := fun e => by
   rcases e _ (List.mem_of_getElem? h) with h | h
   ·cases h
   ·rw [h, hk]
  have hz : Eights s.1 → rkR ((x :: xs).zipWith joinN k) ≤ rkR (x :: xs) ∧ ((x :: xs).zipWith joinN k ≠ x :: xs → rkR ((x :: xs).zipWith joinN k) < rkR (x :: xs)) := fun e => by
   have h1 := rk_zip (x :: xs) k (hlen e);have h2 : (x :: xs).zipWith joinN k ≠ [] := by
    have := hlen e;match k, this with
    | y :: k, _ => simp
   unfold rkR;rw [if_neg h2, if_neg (by simp)];exact h1
  refine ⟨by simp, fun e => e.set (by have := hlen e; simp at this ⊢; omega), fun e => by have := (hz e).1; show rkS (s.1.set _ _) ≤ _; omega, fun e hf ht => ?_, fun hf => by simp [hf], fun hf => ?_⟩
  ·simp [hf] at ht
   have := (hz e).2 (by simpa using ht);show rkS (s.1.set _ _) < _
   omega
  ·simp only [Bool.or_eq_false_iff, decide_eq_false_iff_not, Decidable.not_not] at hf;show s.1.set t.toNat _ = s.1
   rw [hf.2];obtain ⟨hl, he⟩ := List.getElem?_eq_some_iff.1 h;rw [← he, List.set_getElem_self]
theorem foldT_down {k : List Int} (hk : k.length = 8) : ∀ (l : List Int) (s : Kn), Down s (l.foldl (stepT k) s)
 | [], s => .refl s
 | t :: l, s => (stepT_down hk s t).trans (foldT_down hk l _)
theorem stepI_down {l : List Ins} {s : Kn} (he : Eights s.1) (i : Nat) : Down s (stepI l s i) := by
 unfold stepI;split
 ·rename_i x xs o h1 h2
  refine foldT_down ?_ _ _;rw [later_len];rcases he _ (List.mem_of_getElem? h1) with h | h
  ·cases h
  ·exact h
 ·exact .refl s
theorem roundTo_down {l : List Ins} {st : List (List Int)} (he : Eights st) : ∀ k, Down (st, false) (roundTo l st k)
 | 0 => .refl _
 | k + 1 => (roundTo_down he k).trans (stepI_down ((roundTo_down he k).eights he) k)
theorem start_eights (n : Nat) : Eights (start8 n) := fun k hk => by
 rcases List.mem_cons.1 hk with rfl | hk
 ·exact .inr rfl
 ·exact .inl (List.mem_replicate.1 hk).2
theorem flow_ex {l : List Ins} : ∀ (n : Nat) (st : List (List Int)), Eights st → rkS st ≤ n → ∃ r, FlowP l st r
 | n, st, he, hn => by
  have hd := roundTo_down (l := l) he l.length
  cases h : (roundP l st).2
  ·exact ⟨_, .done h⟩
  ·have hlt := hd.lt he rfl h;match n with
   | 0 => have h0 : rkS (roundTo l st l.length).1 < rkS st := hlt; omega
   | n + 1 =>
    obtain ⟨r, hr⟩ := flow_ex n (roundP l st).1 (hd.eights he) (by have h0 : rkS (roundTo l st l.length).1 < rkS st := hlt; unfold roundP; omega);exact ⟨r, .more h hr⟩
noncomputable def flowL (l : List Ins) : List (List Int) := Classical.choose (flow_ex (l := l) _ (start8 l.length) (start_eights _) (Nat.le_refl _))
theorem flowL_is {l : List Ins} {r : List (List Int)} (h : FlowP l (start8 l.length) r) : flowL l = r := (Classical.choose_spec (flow_ex (l := l) _ (start8 l.length) (start_eights _) (Nat.le_refl _))).one h
theorem flowL_flow (l : List Ins) : FlowP l (start8 l.length) (flowL l) := Classical.choose_spec (flow_ex (l := l) _ (start8 l.length) (start_eights _) (Nat.le_refl _))
theorem FlowP.keeps {l : List Ins} {st r : List (List Int)} (h : FlowP l st r) (he : Eights st) : r.length = st.length ∧ Eights r := by
 induction h with
 | @done st h => exact ⟨(roundTo_down he _).len, (roundTo_down he _).eights he⟩
 | @more st r h _ ih =>
  have hd := roundTo_down (l := l) he l.length;obtain ⟨h1, h2⟩ := ih (hd.eights he);exact ⟨h1.trans hd.len, h2⟩
theorem flowL_len {l : List Ins} (h : l ≠ []) : (flowL l).length = l.length := by
 rw [((flowL_flow l).keeps (start_eights _)).1];have : l.length ≠ 0 := (by simpa using h);simp [start8]
 omega
theorem flowL_eights (l : List Ins) : Eights (flowL l) := ((flowL_flow l).keeps (start_eights _)).2
theorem FlowP.shut {l : List Ins} {st r : List (List Int)} (h : FlowP l st r) (he : Eights st) : roundP l r = (r, false) := by
 induction h with
 | @done st h =>
  have := (roundTo_down (l := l) he l.length).same h;have h1 : (roundP l st).1 = st := this;rw [h1];exact Prod.ext h1 h
 | @more st r h _ ih => exact ih ((roundTo_down (l := l) he l.length).eights he)
end
section
open Go.RowKit
def kc (k : List Int) : Array Value := (k.map (.int .i64)).toArray
theorem kc_set (k : List Int) (a : Nat) (x : Int) : (kc k).setIfInBounds a (.int .i64 x) = kc (k.set a x) := by
 unfold kc;simp [List.map_set]
theorem kc_cell {w : World} {b : Nat} {k : List Int} {t : TypeId} (h : w.heap[b]? = some (.cells (kc k) t (0, 0))) {j : Nat} {x : Int} (hx : k[j]? = some x) : w.cell? ⟨b, j, none⟩ = some (.int .i64 x) := by
 rw [cell_of_row w b j _ _ _ h];simp [kc, hx]
theorem eight {k : List Int} (h : k.length = 8) : ∃ m0 m1 m2 m3 m4 m5 m6 m7, k = [m0, m1, m2, m3, m4, m5, m6, m7] := by
 match k, h with
 | [a, b, c, d, e, f, g, i], _ => exact ⟨a, b, c, d, e, f, g, i, rfl⟩
theorem at8_at {k : List Int} {a : Nat} (h : a < k.length) : k[a]? = some (at8 k a) := by
 unfold at8;rw [Int.toNat_natCast, List.getD_eq_getElem?_getD, List.getElem?_eq_getElem h];rfl
def fill8W (w : World) (b : Nat) (u0 u1 u2 u3 u4 u5 u6 u7 : Value) : World :=
 (((((((w.setCell ⟨b, 0, none⟩ u0).setCell ⟨b, 1, none⟩ u1).setCell ⟨b, 2, none⟩ u2).setCell ⟨b, 3, none⟩ u3).setCell ⟨b, 4, none⟩ u4).setCell ⟨b, 5, none⟩ u5).setCell ⟨b, 6, none⟩ u6).setCell ⟨b, 7, none⟩ u7
theorem St.fill8 {B : Nat} {w0 w : World} {R : List Res} (h : St B w0 w R) (i : Nat) {b : Nat} {cs : Array Value} {t : TypeId} (u0 u1 u2 u3 u4 u5 u6 u7 : Value) (hi : R[i]? = some (.blk b cs t)) (hs : cs.size = 8) :
  St B w0 (fill8W w b u0 u1 u2 u3 u4 u5 u6 u7) (R.set i (.blk b #[u0, u1, u2, u3, u4, u5, u6, u7] t)) ∧ Keeps w R (fill8W w b u0 u1 u2 u3 u4 u5 u6 u7) (R.set i (.blk b #[u0, u1, u2, u3, u4, u5, u6, u7] t)) ∧ (fill8W w b u0 u1 u2 u3 u4 u5 u6 u7).heap.size = w.heap.size := by
 have hil : i < R.length := (List.getElem?_eq_some_iff.1 hi).1;let Inv : World → Array Value → Prop := fun w1 c1 => St B w0 w1 (R.set i (.blk b c1 t)) ∧ Keeps w R w1 (R.set i (.blk b c1 t)) ∧ w1.heap.size = w.heap.size
 have step : ∀ (n : Nat) (u : Value) (w1 : World) (c1 : Array Value), Inv w1 c1 → Inv (w1.setCell ⟨b, n, none⟩ u) (c1.setIfInBounds n u) := fun n u w1 c1 ⟨h1, h2, h3⟩ => by
  have hx : (R.set i (.blk b c1 t))[i]? = some (.blk b c1 t) := List.getElem?_set_self hil;have h4 := h1.put i n u hx;rw [List.set_set] at h4;exact ⟨h4.1, h2.trans (by omega) h4.2, by rw [← h3]; simp⟩
 have h0 : Inv w cs := by
  have : R.set i (.blk b cs t) = R := (by rw [← (List.getElem?_eq_some_iff.1 hi).2, List.set_getElem_self]);show St B w0 w (R.set i (.blk b cs t)) ∧ Keeps w R w (R.set i (.blk b cs t)) ∧ w.heap.size = w.heap.size
  rw [this];exact ⟨h, .refl, rfl⟩
 have hA : (((((((cs.setIfInBounds 0 u0).setIfInBounds 1 u1).setIfInBounds 2 u2).setIfInBounds 3 u3).setIfInBounds 4 u4).setIfInBounds 5 u5).setIfInBounds 6 u6).setIfInBounds 7 u7 = #[u0, u1, u2, u3, u4, u5, u6, u7] := by
  obtain ⟨l⟩ := cs;match l, hs with
  | [a0, a1, a2, a3, a4, a5, a6, a7], _ => simp
 have h8 := step 7 u7 _ _ (step 6 u6 _ _ (step 5 u5 _ _ (step 4 u4 _ _ (step 3 u3 _ _ (step 2 u2 _ _ (step 1 u1 _ _ (step 0 u0 _ _ h0)))))));rw [hA] at h8;exact h8
theorem later_no {k : List Int} {op a b n : Int} (h : op = 0 ∨ op = 5 ∨ op = 6 ∨ op = 9 ∨ op = 14 ∨ op = 15 ∨ op = 19) : laterP k ⟨op, a, b, n⟩ = k := by
 rcases h with rfl | rfl | rfl | rfl | rfl | rfl | rfl <;> rfl
theorem later_one {k : List Int} {op b n : Int} {a : Nat} (h : op = 1 ∨ op = 2 ∨ op = 3 ∨ op = 4 ∨ op = 8 ∨ op = 16) : laterP k ⟨op, a, b, n⟩ = k.set a 1 := by
 rcases h with rfl | rfl | rfl | rfl | rfl | rfl <;> rfl
theorem later_gone {k : List Int} {op b n : Int} {a : Nat} (h : op = 13 ∨ op = 18) : laterP k ⟨op, a, b, n⟩ = k.set a 0 := by
 rcases h with rfl | rfl <;> rfl
theorem later_new {k : List Int} {b n : Int} {a : Nat} : laterP k ⟨7, a, b, n⟩ = k.set a 3 := rfl
theorem later_get {k : List Int} {n : Int} {a b : Nat} : laterP k ⟨10, a, b, n⟩ = (k.set b 2).set a 2 := rfl
theorem later_spawn {k : List Int} {n : Int} {a b : Nat} : laterP k ⟨17, a, b, n⟩ = (k.set b 0).set a 1 := rfl
theorem later_put1 {k : List Int} {n : Int} {a b : Nat} (h : a = b ∨ at8 k b = 2) : laterP k ⟨11, a, b, n⟩ = k.set a 2 := by
 show (if (a : Int) = (b : Int) ∨ at8 k (b : Int) = 2 then k.set a 2 else k.set b 0) = _
 rw [if_pos (h.elim (fun e => .inl (by rw [e])) .inr)]
theorem later_put2 {k : List Int} {n : Int} {a b : Nat} (h : ¬ (a = b ∨ at8 k b = 2)) : laterP k ⟨11, a, b, n⟩ = k.set b 0 := by
 show (if (a : Int) = (b : Int) ∨ at8 k (b : Int) = 2 then k.set a 2 else k.set b 0) = _
 rw [if_neg (fun h' => h (h'.elim (fun e => .inl (by omega)) .inr))]
theorem later_move1 {k : List Int} {n : Int} {a b : Nat} (h : at8 k b = 3) : laterP k ⟨12, a, b, n⟩ = (k.set b 0).set a (at8 k b) := by
 show (if at8 k (b : Int) = 3 then k.set b 0 else k).set a (at8 k b) = _
 rw [if_pos h]
theorem later_move2 {k : List Int} {n : Int} {a b : Nat} (h : ¬ at8 k b = 3) : laterP k ⟨12, a, b, n⟩ = k.set a (at8 k b) := by
 show (if at8 k (b : Int) = 3 then k.set b 0 else k).set a (at8 k b) = _
 rw [if_neg h]
def kv (k : List Int) : Value := .agg (kc k)
end
section
open Go.RowKit
def mayB (k : List Int) (i : Ins) : Bool :=
 if i.op = 0 then objB (at8 k 0)
 else if i.op = 2 ∨ i.op = 3 ∨ i.op = 4 then at8 k i.a == 1 && at8 k i.b == 1
 else if i.op = 5 ∨ i.op = 15 then at8 k i.a == 1
 else if i.op = 8 ∨ i.op = 10 then objB (at8 k i.b)
 else if i.op = 9 then objB (at8 k i.a) && at8 k i.b == 1
 else if i.op = 11 then objB (at8 k i.a) && objB (at8 k i.b)
 else if i.op = 12 then at8 k i.b != 0
 else if i.op = 13 then at8 k i.a == 3 && at8 k i.b == 1
 else if i.op = 14 then objB (at8 k i.a) && at8 k i.b == 1
 else if i.op = 17 then at8 k i.b == 3
 else true
def mayO (x0 xa xb : Int) (op : Int) : Bool :=
 if op = 0 then objB x0
 else if op = 2 ∨ op = 3 ∨ op = 4 then xa == 1 && xb == 1
 else if op = 5 ∨ op = 15 then xa == 1
 else if op = 8 ∨ op = 10 then objB xb
 else if op = 9 then objB xa && xb == 1
 else if op = 11 then objB xa && objB xb
 else if op = 12 then xb != 0
 else if op = 13 then xa == 3 && xb == 1
 else if op = 14 then objB xa && xb == 1
 else if op = 17 then xb == 3
 else true
theorem mayB_O (k : List Int) (i : Ins) : mayB k i = mayO (at8 k 0) (at8 k i.a) (at8 k i.b) i.op := rfl
def WaysD (w : World) (l : List Int) (en : Ending) (w' : World) : Prop := ∃ A c, en = .returned (.slice A l.length c) ∧ RdSl iE w' (fun b => w.heap.size ≤ b) (.slice A l.length c) l ∧ Below w.heap.size w w'
theorem ways_nil {w w' : World} (h : Below w.heap.size w w') : WaysD w [] (.returned (.slice none 0 0)) w' := ⟨none, 0, rfl, ⟨none, 0, rfl, Nat.le_refl _, Nat.zero_le _, by simp, fun h => absurd rfl h⟩, h⟩
theorem rd_i1 {w : World} {b n : Nat} {t : TypeId} {x : Int} (h : w.heap[b]? = some (.cells #[.int .i64 x] t (0, 0))) (hn : n ≤ b) : RdSl iE w (fun b => n ≤ b) (.slice (some ⟨b, 0, none⟩) 1 1) [x] :=
 ⟨_, 1, rfl, Nat.le_refl _, by decide, by show 1 * 8 ≤ _; decide, fun _ => ⟨b, 0, rfl, hn, fun i y hy => by
  match i, hy with
  | 0, hy => cases hy; exact ⟨[.int .i64 x], rfl, rfl, fun j u hu => by
    match j, hu with
    | 0, hu => cases hu; simp [World.cell?, h]⟩⟩⟩
theorem rd_i2 {w : World} {b n : Nat} {t : TypeId} {x y : Int} (h : w.heap[b]? = some (.cells #[.int .i64 x, .int .i64 y] t (0, 0))) (hn : n ≤ b) : RdSl iE w (fun b => n ≤ b) (.slice (some ⟨b, 0, none⟩) 2 2) [x, y] :=
 ⟨_, 2, rfl, Nat.le_refl _, by decide, by show 2 * 8 ≤ _; decide, fun _ => ⟨b, 0, rfl, hn, fun i z hz => by
  match i, hz with
  | 0, hz => cases hz; exact ⟨[.int .i64 x], rfl, rfl, fun j u hu => by
    match j, hu with
    | 0, hu => cases hu; simp [World.cell?, h]⟩
  | 1, hz => cases hz; exact ⟨[.int .i64 y], rfl, rfl, fun j u hu => by
    match j, hu with
    | 0, hu => cases hu; simp [World.cell?, h, iE]⟩⟩⟩
end
section
open Go.RowKit
structure FlIns (n : Nat) (i : Nat) (x : Ins) : Prop where
 op : 0 ≤ x.op ∧ x.op ≤ 19
 a : 0 ≤ x.a ∧ x.a < 8
 b : 0 ≤ x.b ∧ x.b < 8
 jump : x.op = 5 ∨ x.op = 6 → -1000 ≤ x.n ∧ x.n ≤ 1000
 ways : ∀ t ∈ waysP i x, 0 ≤ t ∧ t < n
structure FlCode (l : List Ins) : Prop where
 one : 1 ≤ l.length
 few : l.length ≤ 60
 ins : ∀ (i : Nat) (x : Ins), l[i]? = some x → FlIns l.length i x
theorem insF_fl {k len at_ : Int} {x : Ins} {n i : Nat} (h : insF k len at_ x = 0) (hl : len = n) (hi : at_ = i) (hin : i < n) : FlIns n i x := by
 subst hl hi;unfold insF at h;split at h; · cases h
 rename_i h1
 split at h; · cases h
 rename_i h2
 split at h; · cases h
 split at h; · cases h
 rename_i h4
 split at h; · cases h
 split at h; · cases h
 rename_i h6
 refine ⟨by omega, by omega, by omega, fun h5 => ?_, fun t ht => ?_⟩
 ·have e1 : lowN x.op = -60 := (by unfold lowN; rw [if_neg (by omega), if_pos h5]);have e2 : highN x.op = 60 := (by unfold highN; rw [if_neg (by omega), if_pos h5]);omega
 ·unfold waysP at ht;split at ht
  ·cases ht
  ·rename_i w1
   split at ht
   ·rename_i w2
    simp at ht; subst ht
    omega
   ·rename_i w2
    split at ht
    ·rename_i w3
     simp at ht
     rcases ht with rfl | rfl
     ·omega
     ·omega
    ·simp at ht; subst ht
     omega
theorem codeF_fl {k : Int} {l : List Ins} (h : codeF k l = 0) : FlCode l := by
 unfold codeF at h;split at h
 ·cases h
 ·rename_i h1
  refine ⟨by omega, by omega, fun i x hx => ?_⟩;exact insF_fl (firstF_zero h _ (List.mem_of_getElem? (rowF_at hx))) rfl rfl (List.getElem?_eq_some_iff.1 hx).1
theorem progF_fl {p : List (List Ins)} (h : progF p = 0) : 1 ≤ p.length ∧ p.length ≤ 6 ∧ ∀ l ∈ p, FlCode l := by
 unfold progF at h;split at h
 ·cases h
 ·split at h
  ·cases h
  ·rename_i h1 h2
   refine ⟨by omega, by omega, fun l hl => ?_⟩;exact codeF_fl (firstF_zero h _ (List.mem_map.2 ⟨l, hl, rfl⟩))
def pad8 (k : List Int) : List Int := if k = [] then List.replicate 8 0 else k
def padS (st : List (List Int)) : List (List Int) := st.map pad8
def knownS (st : List (List Int)) : List Bool := st.map (fun k => !k.isEmpty)
theorem padS_eight {st : List (List Int)} (h : Eights st) : ∀ k ∈ padS st, k.length = 8 := fun k hk => by
 obtain ⟨k', hk', rfl⟩ := List.mem_map.1 hk;unfold pad8;split
 ·simp
 ·rcases h k' hk' with h | h
  ·contradiction
  ·exact h
theorem padS_set {st : List (List Int)} {t : Nat} {k : List Int} (hk : k ≠ []) : (padS st).set t k = padS (st.set t k) := by
 unfold padS;rw [List.map_set, pad8, if_neg hk]
theorem padS_at {st : List (List Int)} {t : Nat} {x : Int} {xs : List Int} (h : st[t]? = some (x :: xs)) : (padS st)[t]? = some (x :: xs) := by simp [padS, h, pad8]
theorem knownS_set {st : List (List Int)} {t : Nat} {k : List Int} (hk : k ≠ []) : (knownS st).set t true = knownS (st.set t k) := by
 unfold knownS;rw [List.map_set]
 cases k with
 | nil => exact absurd rfl hk
 | cons => rfl
theorem knownS_same {st : List (List Int)} {t : Nat} {k k' : List Int} (h : st[t]? = some k') (hk' : k' ≠ []) (hk : k ≠ []) : knownS (st.set t k) = knownS st := by
 unfold knownS;rw [List.map_set];apply List.ext_getElem?
 intro i;rw [List.getElem?_set];by_cases hi : t = i
 ·subst hi;obtain ⟨hl, he⟩ := List.getElem?_eq_some_iff.1 h;rw [List.getElem?_map, List.getElem?_eq_getElem hl, he];simp only [List.length_map, hl, if_true, Option.map_some]
  cases k with
  | nil => exact absurd rfl hk
  | cons =>
   cases k' with
   | nil => exact absurd rfl hk'
   | cons => rfl
 ·simp [hi]
theorem knownS_at {st : List (List Int)} {t : Nat} {k : List Int} (h : st[t]? = some k) : (knownS st)[t]? = some (!k.isEmpty) := by simp [knownS, h]
theorem stepT_new {k : List Int} {st : List (List Int)} {f : Bool} {t : Nat} (h : st[t]? = some []) : stepT k (st, f) (t : Int) = (st.set t k, true) := by
 unfold stepT;simp [h]
theorem stepT_old {k xs : List Int} {x : Int} {st : List (List Int)} {f : Bool} {t : Nat} (h : st[t]? = some (x :: xs)) : stepT k (st, f) (t : Int) = (st.set t ((x :: xs).zipWith joinN k), f || decide ((x :: xs).zipWith joinN k ≠ x :: xs)) := by
 unfold stepT;simp [h]
def joinTo (x k : List Int) (r : Nat) : List Int := (x.take r).zipWith joinN (k.take r) ++ x.drop r
theorem joinTo_zero (x k : List Int) : joinTo x k 0 = x := by simp [joinTo]
theorem joinTo_all {x k : List Int} (h : x.length = k.length) : joinTo x k x.length = x.zipWith joinN k := by
 unfold joinTo;rw [List.take_length, List.drop_length, List.append_nil, h, List.take_length]
theorem joinTo_at {x k : List Int} {r : Nat} {a : Int} (h : x[r]? = some a) (hk : r ≤ k.length) : (joinTo x k r)[r]? = some a := by
 have hl := (List.getElem?_eq_some_iff.1 h).1;unfold joinTo;rw [List.getElem?_append_right (by simp; omega)];simp [h, Nat.min_eq_left (Nat.le_of_lt hl), Nat.min_eq_left hk]
theorem joinTo_len {x k : List Int} {r : Nat} (h : x.length = k.length) : (joinTo x k r).length = x.length := by simp [joinTo, h]; omega
theorem joinTo_next {x k : List Int} {r : Nat} {a b : Int} (ha : x[r]? = some a) (hb : k[r]? = some b) : (joinTo x k r).set r (joinN a b) = joinTo x k (r + 1) := by
 obtain ⟨hl, he⟩ := List.getElem?_eq_some_iff.1 ha;obtain ⟨hk, hf⟩ := List.getElem?_eq_some_iff.1 hb;unfold joinTo;rw [List.set_append_right _ _ (by simp; omega)];have e1 : ((x.take r).zipWith joinN (k.take r)).length = r := (by simp; omega);rw [e1, Nat.sub_self, List.drop_eq_getElem_cons hl, List.set_cons_zero, List.take_add_one, ha, List.take_add_one, hb];simp only [Option.toList_some];rw [List.zipWith_append (by simp; omega)];simp
def knE : El (List Int) where
 size := 8
 bytes := 64
 rd := fun _ _ cs x => cs = x.map (.int .i64) ∧ x.length = 8
 keep := fun _ h => h
 one := fun h u hu => by
  obtain ⟨rfl, _⟩ := h;obtain ⟨x, _, rfl⟩ := List.mem_map.1 hu;rfl
theorem rowsK_held {w : World} {S : Nat → Prop} {ks : List (List Int)} (h : ∀ k ∈ ks, k.length = 8) : Held knE w S (rowsK ks) ks := ⟨by simp [rowsK], fun i x cs hx hc => by
 simp [rowsK, hx] at hc
 subst hc;have := h x (List.mem_of_getElem? hx);exact ⟨by show (x.map (Value.int .i64)).length = 8; simpa using this, rfl, this⟩⟩
theorem ycs_held {w : World} {S : Nat → Prop} (l : List Bool) : Held yE w S (l.map (fun b => [.bool b])) l := ⟨by simp, fun i x cs hx hc => by
 simp [hx] at hc
 subst hc;exact ⟨rfl, rfl⟩⟩
theorem cat_ycs : ∀ l : List Bool, cat (l.map (fun b => [Value.bool b])) = l.map .bool
 | [] => rfl
 | x :: l => by
  have := cat_ycs l;unfold cat at *;simp [this]
theorem start_at {n : Nat} (h : 1 ≤ n) : ((List.replicate n (List.replicate 8 (0 : Int))).set 0 ((List.replicate 8 0).set 0 3)).set 0 (((List.replicate 8 0).set 0 3).set 1 3) = padS (start8 n) := by
 obtain ⟨m, rfl⟩ : ∃ m, n = m + 1 := ⟨n - 1, by omega⟩;simp only [List.replicate_succ (n := m), List.set_cons_zero, padS, start8, List.map_cons, Nat.add_sub_cancel, List.map_replicate];rfl
theorem start_known {n : Nat} (h : 1 ≤ n) : (List.replicate n false).set 0 true = knownS (start8 n) := by
 obtain ⟨m, rfl⟩ : ∃ m, n = m + 1 := ⟨n - 1, by omega⟩;simp only [List.replicate_succ (n := m), List.set_cons_zero, knownS, start8, List.map_cons, Nat.add_sub_cancel, List.map_replicate];rfl
theorem start_len {n : Nat} (h : 1 ≤ n) : (start8 n).length = n := by simp [start8]; omega
def FlowI (l : List Ins) (m : Nat) (fl : Bool) (st : List (List Int)) : Prop :=
 st.length = l.length ∧ Eights st ∧ (fl = true → (∀ r, FlowP l st r → FlowP l (start8 l.length) r) ∧ rkS st < m) ∧ (fl = false → FlowP l (start8 l.length) st)
theorem flowI_start {l : List Ins} (h : 1 ≤ l.length) : FlowI l (rkS (start8 l.length) + 1) true (start8 l.length) := ⟨start_len h, start_eights _, fun _ => ⟨fun _ h => h, by omega⟩, fun h => by cases h⟩
theorem flowI_next {l : List Ins} {m : Nat} {st st' : List (List Int)} {fl : Bool} (h : FlowI l m true st) (hr : roundTo l st l.length = (st', fl)) : m - 1 < m ∧ FlowI l (m - 1) fl st' := by
 obtain ⟨h1, h2, h3, _⟩ := h;obtain ⟨h4, h5⟩ := h3 rfl;have hd := roundTo_down (l := l) h2 l.length;have e1 : (roundP l st).1 = st' := (by unfold roundP; rw [hr]);have e2 : (roundP l st).2 = fl := (by unfold roundP; rw [hr]);rw [hr] at hd;refine ⟨by omega, hd.len.trans h1, hd.eights h2, fun hf => ⟨fun r hr' => h4 r (.more (by rw [e2]; exact hf) (by rw [e1]; exact hr')), ?_⟩, fun hf => ?_⟩
 ·have := hd.lt h2 rfl hf;show rkS st' < m - 1
  have h6 : rkS st' < rkS st := this;omega
 ·rw [← e1];exact h4 _ (.done (by rw [e2]; exact hf))
theorem flowI_end {l : List Ins} {m : Nat} {st : List (List Int)} (h : FlowI l m false st) : flowL l = st := flowL_is (h.2.2.2 rfl)
theorem roundTo_none {l : List Ins} {st st' : List (List Int)} {fl : Bool} {k : Nat} (h : roundTo l st k = (st', fl)) (hk : st'[k]? = some []) : roundTo l st (k + 1) = (st', fl) := by
 show stepI l (roundTo l st k) k = _
 rw [h];unfold stepI;simp only [hk]
theorem roundTo_some {l : List Ins} {st st' : List (List Int)} {fl : Bool} {k : Nat} {x : Int} {xs : List Int} {o : Ins} (h : roundTo l st k = (st', fl)) (hk : st'[k]? = some (x :: xs)) (ho : l[k]? = some o) :
  roundTo l st (k + 1) = (waysP k o).foldl (stepT (laterP (x :: xs) o)) (st', fl) := by
 show stepI l (roundTo l st k) k = _
 rw [h];unfold stepI;simp only [hk, ho]
theorem fold_next {α β : Type} {f : α → β → α} {l : List β} {k : Nat} {x : β} (h : l[k]? = some x) (s : α) : (l.take (k + 1)).foldl f s = f ((l.take k).foldl f s) x := by
 rw [List.take_add_one, h];simp
theorem FlIns.nat {n i : Nat} {x : Ins} (h : FlIns n i x) : ∃ (op m : Int) (a b : Nat), x = ⟨op, a, b, m⟩ ∧ (0 ≤ op ∧ op ≤ 19) ∧ a < 8 ∧ b < 8 := by
 obtain ⟨op, a, b, m⟩ := x;obtain ⟨h1, h2, h3, _, _⟩ := h;dsimp only at h1 h2 h3;exact ⟨op, m, a.toNat, b.toNat, by rw [Int.toNat_of_nonneg h2.1, Int.toNat_of_nonneg h3.1], h1, by omega, by omega⟩
def FlowD (w : World) (l : List Ins) (en : Ending) (w' : World) : Prop :=
 ∃ A c B d, en = .returned (.tuple #[.slice A l.length c, .slice B l.length d]) ∧ RdSl knE w' (fun b => w.heap.size ≤ b) (.slice A l.length c) (padS (flowL l)) ∧ RdSl yE w' (fun b => w.heap.size ≤ b) (.slice B l.length d) (knownS (flowL l)) ∧ Below w.heap.size w w'
noncomputable def badI (l : List Ins) (i : Nat) : Bool := match (flowL l)[i]?, l[i]? with
 | some (x :: xs), some o => !mayB (x :: xs) o
 | _, _ => false
noncomputable def badL (l : List Ins) : Option Nat := (List.range l.length).find? (badI l)
noncomputable def badK : Nat → List (List Ins) → Option (Nat × Nat)
 | _, [] => none
 | k, l :: r => match badL l with
  | some i => some (k, i)
  | none => badK (k + 1) r
noncomputable def verP (p : List (List Ins)) : Int × Int × Int :=
 if progF p ≠ 0 then (0, 0, progF p) else match badK 0 p with
  | some (k, i) => (k, i, 9)
  | none => (0, 0, 0)
theorem badL_none {l : List Ins} (h : ∀ i, i < l.length → badI l i = false) : badL l = none := by
 unfold badL;rw [List.find?_eq_none];intro i hi;simp at hi
 simp [h i hi]
theorem badL_some {l : List Ins} {i : Nat} (hi : i < l.length) (h : badI l i = true) (hb : ∀ j, j < i → badI l j = false) : badL l = some i := by
 unfold badL;rw [List.find?_range_eq_some];exact ⟨h, by simpa using hi, fun j hj => by simp [hb j hj]⟩
theorem badK_none : ∀ {p : List (List Ins)} {k : Nat}, (∀ l ∈ p, badL l = none) → badK k p = none
 | [], _, _ => rfl
 | l :: r, k, h => by
  unfold badK;rw [h l (by simp)];exact badK_none (fun l hl => h l (by simp [hl]))
theorem badK_some : ∀ {p : List (List Ins)} {k n i : Nat} {l : List Ins}, p[n]? = some l → badL l = some i → (∀ j l', j < n → p[j]? = some l' → badL l' = none) → badK k p = some (k + n, i)
 | [], _, _, _, _, h, _, _ => by simp at h
 | l :: r, k, 0, i, l', h, hb, _ => by
  simp at h; subst h
  unfold badK;rw [hb]; rfl
 | l :: r, k, n + 1, i, l', h, hb, hj => by
  unfold badK;rw [hj 0 l (by omega) rfl];have := badK_some (k := k + 1) (n := n) (by simpa using h) hb (fun j l2 hjn h2 => hj (j + 1) l2 (by omega) (by simpa using h2));show badK (k + 1) r = _
  rw [this, show k + 1 + n = k + (n + 1) by omega]
theorem verP_bad {p : List (List Ins)} (h : progF p ≠ 0) : verP p = (0, 0, progF p) := if_pos h
theorem verP_ok {p : List (List Ins)} (h : progF p = 0) (hb : ∀ l ∈ p, badL l = none) : verP p = (0, 0, 0) := by
 unfold verP;rw [if_neg (by simp [h]), badK_none hb]
theorem verP_no {p : List (List Ins)} {n i : Nat} {l : List Ins} (h : progF p = 0) (hn : p[n]? = some l) (hb : badL l = some i) (hj : ∀ j l', j < n → p[j]? = some l' → badL l' = none) : verP p = ((n : Int), (i : Int), 9) := by
 unfold verP;rw [if_neg (by simp [h]), badK_some (k := 0) hn hb hj, Nat.zero_add]
theorem badI_none {l : List Ins} {i : Nat} (h : (flowL l)[i]? = some []) : badI l i = false := by
 unfold badI;rw [h]
theorem badI_some {l : List Ins} {i : Nat} {x : Int} {xs : List Int} {o : Ins} (h : (flowL l)[i]? = some (x :: xs)) (ho : l[i]? = some o) : badI l i = !mayB (x :: xs) o := by
 unfold badI;rw [h, ho]
theorem eqPlaces (d : Nat) (w : World) (xs ys : List Int) (hl : xs.length = ys.length) : ∀ is : List Nat, (∀ i ∈ is, i < xs.length) →
  (forIn (m := Sem) is ((none : Option Bool), ()) fun i __s => do
   let a ← part 3 (xs.map (Value.int .i64)).toArray (i * 1)
   let b ← part 3 (ys.map (Value.int .i64)).toArray (i * 1)
   let r ← Op.equalIn (d + 1) 3 a b
   if (!r) = true then pure (ForInStep.done (some false, ())) else pure (ForInStep.yield (none, ()))).run Try.prog w = .ok (if ∀ i ∈ is, xs[i]? = ys[i]? then none else some false, ()) w := by
 have hp : ∀ (zs : List Int) (i : Nat) (z : Int), zs[i]? = some z → (part 3 (zs.map (Value.int .i64)).toArray (i * 1)).run Try.prog w = .ok (.int .i64 z) w := fun zs i z hz => by
  simp [part, go_sem, Try.isAgg3, hz]
 intro is;induction is with
 | nil => intro _; simp
 | cons i is ih =>
  intro hi;obtain ⟨a, h1⟩ : ∃ a, xs[i]? = some a := ⟨_, List.getElem?_eq_getElem (hi i (by simp))⟩;obtain ⟨b, h2⟩ : ∃ b, ys[i]? = some b := ⟨_, List.getElem?_eq_getElem (by have := hi i (by simp); omega)⟩;simp only [List.forIn_cons, Sem.run_bind, hp _ _ _ h1, hp _ _ _ h2, Result.andThen_ok, run_equalIn_int w d 3 .i64 .i64 a b Try.underlying3];by_cases he : a = b
  ·have hb : (a == b) = true := (by simpa using he);rw [hb];simp only [Bool.not_true, Bool.false_eq_true, if_false, Sem.run_pure, Result.andThen_ok];rw [ih (fun j hj => hi j (by simp [hj]))];simp [h1, h2, he]
  ·have hb : (a == b) = false := (by simpa using he);rw [hb];simp only [Bool.not_false, if_true, Sem.run_pure, Result.andThen_ok];rw [if_neg (fun h => he (by have := h i (by simp); rw [h1, h2] at this; exact Option.some.inj this))]
end
end Go.Proofs.Ytabcjdalifhpdaa
