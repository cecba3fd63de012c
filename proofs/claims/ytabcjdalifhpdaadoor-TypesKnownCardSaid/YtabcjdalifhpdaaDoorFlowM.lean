/- What verify.flow holds in memory, told by the plain flow; which behaviors it is asked of. No condition; no run. -/
import Derived.Test.YtabcjdalifhpdaaDoorFlowP
import Derived.Test.YtabcjdalifhpdaaDoorStB
import Derived.Test.YtabcjdalifhpdaaDoorRight
namespace Go.Proofs.YtabcjdalifhpdaaDoor
open Go.RowKit

/-- Instructions that a flow may be asked of. -/
structure FlIns (n : Nat) (i : Nat) (x : Ins) : Prop where
  op : 0 ≤ x.op ∧ x.op ≤ 19
  a : 0 ≤ x.a ∧ x.a < 8
  b : 0 ≤ x.b ∧ x.b < 8
  jump : x.op = 5 ∨ x.op = 6 → -1000 ≤ x.n ∧ x.n ≤ 1000
  ways : ∀ t ∈ waysP i x, 0 ≤ t ∧ t < n
structure FlCode (l : List Ins) : Prop where
  one : 1 ≤ l.length
  few : l.length ≤ 60
  ins : ∀ (i : Nat) (x : Ins), l[i]? = some x → FlIns l.length i x
theorem insF_fl {k len at_ : Int} {x : Ins} {n i : Nat} (h : insF k len at_ x = 0) (hl : len = n) (hi : at_ = i) (hin : i < n) : FlIns n i x := by
  subst hl hi
  unfold insF at h
  split at h; · cases h
  rename_i h1
  split at h; · cases h
  rename_i h2
  split at h; · cases h
  split at h; · cases h
  rename_i h4
  split at h; · cases h
  split at h; · cases h
  rename_i h6
  refine ⟨by omega, by omega, by omega, fun h5 => ?_, fun t ht => ?_⟩
  · have e1 : lowN x.op = -60 := by unfold lowN; rw [if_neg (by omega), if_pos h5]
    have e2 : highN x.op = 60 := by unfold highN; rw [if_neg (by omega), if_pos h5]
    omega
  · unfold waysP at ht
    split at ht
    · cases ht
    · rename_i w1
      split at ht
      · rename_i w2
        simp at ht; subst ht
        omega
      · rename_i w2
        split at ht
        · rename_i w3
          simp at ht
          rcases ht with rfl | rfl
          · omega
          · omega
        · simp at ht; subst ht
          omega
theorem codeF_fl {k : Int} {l : List Ins} (h : codeF k l = 0) : FlCode l := by
  unfold codeF at h
  split at h
  · cases h
  · rename_i h1
    refine ⟨by omega, by omega, fun i x hx => ?_⟩
    exact insF_fl (firstF_zero h _ (List.mem_of_getElem? (rowF_at hx))) rfl rfl (List.getElem?_eq_some_iff.1 hx).1
theorem progF_fl {p : List (List Ins)} (h : progF p = 0) : 1 ≤ p.length ∧ p.length ≤ 6 ∧ ∀ l ∈ p, FlCode l := by
  unfold progF at h
  split at h
  · cases h
  · split at h
    · cases h
    · rename_i h1 h2
      refine ⟨by omega, by omega, fun l hl => ?_⟩
      exact codeF_fl (firstF_zero h _ (List.mem_map.2 ⟨l, hl, rfl⟩))

/-- What nothing is known at, as eight zeros. -/
def pad8 (k : List Int) : List Int := if k = [] then List.replicate 8 0 else k
def padS (st : List (List Int)) : List (List Int) := st.map pad8
def knownS (st : List (List Int)) : List Bool := st.map (fun k => !k.isEmpty)
theorem padS_eight {st : List (List Int)} (h : Eights st) : ∀ k ∈ padS st, k.length = 8 := fun k hk => by
  obtain ⟨k', hk', rfl⟩ := List.mem_map.1 hk
  unfold pad8
  split
  · simp
  · rcases h k' hk' with h | h
    · contradiction
    · exact h
theorem padS_set {st : List (List Int)} {t : Nat} {k : List Int} (hk : k ≠ []) : (padS st).set t k = padS (st.set t k) := by
  unfold padS
  rw [List.map_set, pad8, if_neg hk]
theorem padS_at {st : List (List Int)} {t : Nat} {x : Int} {xs : List Int} (h : st[t]? = some (x :: xs)) : (padS st)[t]? = some (x :: xs) := by simp [padS, h, pad8]
theorem knownS_set {st : List (List Int)} {t : Nat} {k : List Int} (hk : k ≠ []) : (knownS st).set t true = knownS (st.set t k) := by
  unfold knownS
  rw [List.map_set]
  cases k with
  | nil => exact absurd rfl hk
  | cons => rfl
theorem knownS_same {st : List (List Int)} {t : Nat} {k k' : List Int} (h : st[t]? = some k') (hk' : k' ≠ []) (hk : k ≠ []) : knownS (st.set t k) = knownS st := by
  unfold knownS
  rw [List.map_set]
  apply List.ext_getElem?
  intro i
  rw [List.getElem?_set]
  by_cases hi : t = i
  · subst hi
    obtain ⟨hl, he⟩ := List.getElem?_eq_some_iff.1 h
    rw [List.getElem?_map, List.getElem?_eq_getElem hl, he]
    simp only [List.length_map, hl, if_true, Option.map_some]
    cases k with
    | nil => exact absurd rfl hk
    | cons =>
      cases k' with
      | nil => exact absurd rfl hk'
      | cons => rfl
  · simp [hi]
theorem knownS_at {st : List (List Int)} {t : Nat} {k : List Int} (h : st[t]? = some k) : (knownS st)[t]? = some (!k.isEmpty) := by simp [knownS, h]
theorem stepT_new {k : List Int} {st : List (List Int)} {f : Bool} {t : Nat} (h : st[t]? = some []) : stepT k (st, f) (t : Int) = (st.set t k, true) := by
  unfold stepT
  simp [h]
theorem stepT_old {k xs : List Int} {x : Int} {st : List (List Int)} {f : Bool} {t : Nat} (h : st[t]? = some (x :: xs)) : stepT k (st, f) (t : Int) = (st.set t ((x :: xs).zipWith joinN k), f || decide ((x :: xs).zipWith joinN k ≠ x :: xs)) := by
  unfold stepT
  simp [h]
/-- Joined up to register r. -/
def joinTo (x k : List Int) (r : Nat) : List Int := (x.take r).zipWith joinN (k.take r) ++ x.drop r
theorem joinTo_zero (x k : List Int) : joinTo x k 0 = x := by simp [joinTo]
theorem joinTo_all {x k : List Int} (h : x.length = k.length) : joinTo x k x.length = x.zipWith joinN k := by
  unfold joinTo
  rw [List.take_length, List.drop_length, List.append_nil, h, List.take_length]
theorem joinTo_at {x k : List Int} {r : Nat} {a : Int} (h : x[r]? = some a) (hk : r ≤ k.length) : (joinTo x k r)[r]? = some a := by
  have hl := (List.getElem?_eq_some_iff.1 h).1
  unfold joinTo
  rw [List.getElem?_append_right (by simp; omega)]
  simp [h, Nat.min_eq_left (Nat.le_of_lt hl), Nat.min_eq_left hk]
theorem joinTo_len {x k : List Int} {r : Nat} (h : x.length = k.length) : (joinTo x k r).length = x.length := by simp [joinTo, h]; omega
theorem joinTo_next {x k : List Int} {r : Nat} {a b : Int} (ha : x[r]? = some a) (hb : k[r]? = some b) : (joinTo x k r).set r (joinN a b) = joinTo x k (r + 1) := by
  obtain ⟨hl, he⟩ := List.getElem?_eq_some_iff.1 ha
  obtain ⟨hk, hf⟩ := List.getElem?_eq_some_iff.1 hb
  unfold joinTo
  rw [List.set_append_right _ _ (by simp; omega)]
  have e1 : ((x.take r).zipWith joinN (k.take r)).length = r := by simp; omega
  rw [e1, Nat.sub_self, List.drop_eq_getElem_cons hl, List.set_cons_zero, List.take_add_one, ha, List.take_add_one, hb]
  simp only [Option.toList_some]
  rw [List.zipWith_append (by simp; omega)]
  simp
/-- How a list of numbers of eight is read. -/
def knE : El (List Int) where
  size := 8
  bytes := 64
  rd := fun _ _ cs x => cs = x.map (.int .i64) ∧ x.length = 8
  keep := fun _ h => h
  one := fun h u hu => by
    obtain ⟨rfl, _⟩ := h
    obtain ⟨x, _, rfl⟩ := List.mem_map.1 hu
    rfl
theorem rowsK_held {w : World} {S : Nat → Prop} {ks : List (List Int)} (h : ∀ k ∈ ks, k.length = 8) : Held knE w S (rowsK ks) ks := ⟨by simp [rowsK], fun i x cs hx hc => by
  simp [rowsK, hx] at hc
  subst hc
  have := h x (List.mem_of_getElem? hx)
  exact ⟨by show (x.map (Value.int .i64)).length = 8; simpa using this, rfl, this⟩⟩
theorem ycs_held {w : World} {S : Nat → Prop} (l : List Bool) : Held yE w S (l.map (fun b => [.bool b])) l := ⟨by simp, fun i x cs hx hc => by
  simp [hx] at hc
  subst hc
  exact ⟨rfl, rfl⟩⟩
theorem cat_ycs : ∀ l : List Bool, cat (l.map (fun b => [Value.bool b])) = l.map .bool
  | [] => rfl
  | x :: l => by
    have := cat_ycs l
    unfold cat at *
    simp [this]
theorem start_at {n : Nat} (h : 1 ≤ n) : ((List.replicate n (List.replicate 8 (0 : Int))).set 0 ((List.replicate 8 0).set 0 3)).set 0 (((List.replicate 8 0).set 0 3).set 1 3) = padS (start8 n) := by
  obtain ⟨m, rfl⟩ : ∃ m, n = m + 1 := ⟨n - 1, by omega⟩
  simp only [List.replicate_succ (n := m), List.set_cons_zero, padS, start8, List.map_cons, Nat.add_sub_cancel, List.map_replicate]
  rfl
theorem start_known {n : Nat} (h : 1 ≤ n) : (List.replicate n false).set 0 true = knownS (start8 n) := by
  obtain ⟨m, rfl⟩ : ∃ m, n = m + 1 := ⟨n - 1, by omega⟩
  simp only [List.replicate_succ (n := m), List.set_cons_zero, knownS, start8, List.map_cons, Nat.add_sub_cancel, List.map_replicate]
  rfl
theorem start_len {n : Nat} (h : 1 ≤ n) : (start8 n).length = n := by simp [start8]; omega
/-- A flow under way: is another round to come? -/
def FlowI (l : List Ins) (m : Nat) (fl : Bool) (st : List (List Int)) : Prop :=
  st.length = l.length ∧ Eights st ∧ (fl = true → (∀ r, FlowP l st r → FlowP l (start8 l.length) r) ∧ rkS st < m) ∧ (fl = false → FlowP l (start8 l.length) st)
theorem flowI_start {l : List Ins} (h : 1 ≤ l.length) : FlowI l (rkS (start8 l.length) + 1) true (start8 l.length) := ⟨start_len h, start_eights _, fun _ => ⟨fun _ h => h, by omega⟩, fun h => by cases h⟩
theorem flowI_next {l : List Ins} {m : Nat} {st st' : List (List Int)} {fl : Bool} (h : FlowI l m true st) (hr : roundTo l st l.length = (st', fl)) : m - 1 < m ∧ FlowI l (m - 1) fl st' := by
  obtain ⟨h1, h2, h3, _⟩ := h
  obtain ⟨h4, h5⟩ := h3 rfl
  have hd := roundTo_down (l := l) h2 l.length
  have e1 : (roundP l st).1 = st' := by unfold roundP; rw [hr]
  have e2 : (roundP l st).2 = fl := by unfold roundP; rw [hr]
  rw [hr] at hd
  refine ⟨by omega, hd.len.trans h1, hd.eights h2, fun hf => ⟨fun r hr' => h4 r (.more (by rw [e2]; exact hf) (by rw [e1]; exact hr')), ?_⟩, fun hf => ?_⟩
  · have := hd.lt h2 rfl hf
    show rkS st' < m - 1
    have h6 : rkS st' < rkS st := this
    omega
  · rw [← e1]
    exact h4 _ (.done (by rw [e2]; exact hf))
theorem flowI_end {l : List Ins} {m : Nat} {st : List (List Int)} (h : FlowI l m false st) : flowL l = st := flowL_is (h.2.2.2 rfl)
theorem roundTo_none {l : List Ins} {st st' : List (List Int)} {fl : Bool} {k : Nat} (h : roundTo l st k = (st', fl)) (hk : st'[k]? = some []) : roundTo l st (k + 1) = (st', fl) := by
  show stepI l (roundTo l st k) k = _
  rw [h]
  unfold stepI
  simp only [hk]
theorem roundTo_some {l : List Ins} {st st' : List (List Int)} {fl : Bool} {k : Nat} {x : Int} {xs : List Int} {o : Ins} (h : roundTo l st k = (st', fl)) (hk : st'[k]? = some (x :: xs)) (ho : l[k]? = some o) :
    roundTo l st (k + 1) = (waysP k o).foldl (stepT (laterP (x :: xs) o)) (st', fl) := by
  show stepI l (roundTo l st k) k = _
  rw [h]
  unfold stepI
  simp only [hk, ho]
theorem fold_next {α β : Type} {f : α → β → α} {l : List β} {k : Nat} {x : β} (h : l[k]? = some x) (s : α) : (l.take (k + 1)).foldl f s = f ((l.take k).foldl f s) x := by
  rw [List.take_add_one, h]
  simp
/-- Instruction, its registers as natural numbers. -/
theorem FlIns.nat {n i : Nat} {x : Ins} (h : FlIns n i x) : ∃ (op m : Int) (a b : Nat), x = ⟨op, a, b, m⟩ ∧ (0 ≤ op ∧ op ≤ 19) ∧ a < 8 ∧ b < 8 := by
  obtain ⟨op, a, b, m⟩ := x
  obtain ⟨h1, h2, h3, _, _⟩ := h
  dsimp only at h1 h2 h3
  exact ⟨op, m, a.toNat, b.toNat, by rw [Int.toNat_of_nonneg h2.1, Int.toNat_of_nonneg h3.1], h1, by omega, by omega⟩
def FlowD (w : World) (l : List Ins) (en : Ending) (w' : World) : Prop :=
  ∃ A c B d, en = .returned (.tuple #[.slice A l.length c, .slice B l.length d]) ∧ RdSl knE w' (fun b => w.heap.size ≤ b) (.slice A l.length c) (padS (flowL l)) ∧ RdSl yE w' (fun b => w.heap.size ≤ b) (.slice B l.length d) (knownS (flowL l)) ∧ Below w.heap.size w w'

/-- May the instruction at a place of a behavior not be done? -/
noncomputable def badI (l : List Ins) (i : Nat) : Bool := match (flowL l)[i]?, l[i]? with
  | some (x :: xs), some o => !mayB (x :: xs) o
  | _, _ => false
noncomputable def badL (l : List Ins) : Option Nat := (List.range l.length).find? (badI l)
noncomputable def badK : Nat → List (List Ins) → Option (Nat × Nat)
  | _, [] => none
  | k, l :: r => match badL l with
    | some i => some (k, i)
    | none => badK (k + 1) r
/-- Its answer: the behavior, the place, the error. -/
noncomputable def verP (p : List (List Ins)) : Int × Int × Int :=
  if progF p ≠ 0 then (0, 0, progF p) else match badK 0 p with
    | some (k, i) => (k, i, 9)
    | none => (0, 0, 0)
theorem badL_none {l : List Ins} (h : ∀ i, i < l.length → badI l i = false) : badL l = none := by
  unfold badL
  rw [List.find?_eq_none]
  intro i hi
  simp at hi
  simp [h i hi]
theorem badL_some {l : List Ins} {i : Nat} (hi : i < l.length) (h : badI l i = true) (hb : ∀ j, j < i → badI l j = false) : badL l = some i := by
  unfold badL
  rw [List.find?_range_eq_some]
  exact ⟨h, by simpa using hi, fun j hj => by simp [hb j hj]⟩
theorem badK_none : ∀ {p : List (List Ins)} {k : Nat}, (∀ l ∈ p, badL l = none) → badK k p = none
  | [], _, _ => rfl
  | l :: r, k, h => by
    unfold badK
    rw [h l (by simp)]
    exact badK_none (fun l hl => h l (by simp [hl]))
theorem badK_some : ∀ {p : List (List Ins)} {k n i : Nat} {l : List Ins}, p[n]? = some l → badL l = some i → (∀ j l', j < n → p[j]? = some l' → badL l' = none) → badK k p = some (k + n, i)
  | [], _, _, _, _, h, _, _ => by simp at h
  | l :: r, k, 0, i, l', h, hb, _ => by
    simp at h; subst h
    unfold badK
    rw [hb]; rfl
  | l :: r, k, n + 1, i, l', h, hb, hj => by
    unfold badK
    rw [hj 0 l (by omega) rfl]
    have := badK_some (k := k + 1) (n := n) (by simpa using h) hb (fun j l2 hjn h2 => hj (j + 1) l2 (by omega) (by simpa using h2))
    show badK (k + 1) r = _
    rw [this, show k + 1 + n = k + (n + 1) by omega]
theorem verP_bad {p : List (List Ins)} (h : progF p ≠ 0) : verP p = (0, 0, progF p) := if_pos h
theorem verP_ok {p : List (List Ins)} (h : progF p = 0) (hb : ∀ l ∈ p, badL l = none) : verP p = (0, 0, 0) := by
  unfold verP
  rw [if_neg (by simp [h]), badK_none hb]
theorem verP_no {p : List (List Ins)} {n i : Nat} {l : List Ins} (h : progF p = 0) (hn : p[n]? = some l) (hb : badL l = some i) (hj : ∀ j l', j < n → p[j]? = some l' → badL l' = none) : verP p = ((n : Int), (i : Int), 9) := by
  unfold verP
  rw [if_neg (by simp [h]), badK_some (k := 0) hn hb hj, Nat.zero_add]
theorem badI_none {l : List Ins} {i : Nat} (h : (flowL l)[i]? = some []) : badI l i = false := by
  unfold badI
  rw [h]
theorem badI_some {l : List Ins} {i : Nat} {x : Int} {xs : List Int} {o : Ins} (h : (flowL l)[i]? = some (x :: xs)) (ho : l[i]? = some o) : badI l i = !mayB (x :: xs) o := by
  unfold badI
  rw [h, ho]
/-- The elements of two arrays of numbers are held against each other, from a list of places on. -/
theorem eqPlaces (d : Nat) (w : World) (xs ys : List Int) (hl : xs.length = ys.length) : ∀ is : List Nat, (∀ i ∈ is, i < xs.length) →
    (forIn (m := Sem) is ((none : Option Bool), ()) fun i __s => do
      let a ← part 3 (xs.map (Value.int .i64)).toArray (i * 1)
      let b ← part 3 (ys.map (Value.int .i64)).toArray (i * 1)
      let r ← Op.equalIn (d + 1) 3 a b
      if (!r) = true then pure (ForInStep.done (some false, ())) else pure (ForInStep.yield (none, ()))).run Tryd.prog w = .ok (if ∀ i ∈ is, xs[i]? = ys[i]? then none else some false, ()) w := by
  have hp : ∀ (zs : List Int) (i : Nat) (z : Int), zs[i]? = some z → (part 3 (zs.map (Value.int .i64)).toArray (i * 1)).run Tryd.prog w = .ok (.int .i64 z) w := fun zs i z hz => by
    simp [part, go_sem, Tryd.isAgg3, hz]
  intro is
  induction is with
  | nil => intro _; simp
  | cons i is ih =>
    intro hi
    obtain ⟨a, h1⟩ : ∃ a, xs[i]? = some a := ⟨_, List.getElem?_eq_getElem (hi i (by simp))⟩
    obtain ⟨b, h2⟩ : ∃ b, ys[i]? = some b := ⟨_, List.getElem?_eq_getElem (by have := hi i (by simp); omega)⟩
    simp only [List.forIn_cons, Sem.run_bind, hp _ _ _ h1, hp _ _ _ h2, Result.andThen_ok, run_equalIn_int w d 3 .i64 .i64 a b Tryd.underlying3]
    by_cases he : a = b
    · have hb : (a == b) = true := by simpa using he
      rw [hb]
      simp only [Bool.not_true, Bool.false_eq_true, if_false, Sem.run_pure, Result.andThen_ok]
      rw [ih (fun j hj => hi j (by simp [hj]))]
      simp [h1, h2, he]
    · have hb : (a == b) = false := by simpa using he
      rw [hb]
      simp only [Bool.not_false, if_true, Sem.run_pure, Result.andThen_ok]
      rw [if_neg (fun h => he (by have := h i (by simp); rw [h1, h2] at this; exact Option.some.inj this))]
theorem knownEq (w : World) (z0 z1 z2 z3 z4 z5 z6 z7 p0 p1 p2 p3 p4 p5 p6 p7 : Int) :
    (Op.equalIn 10000 119 (.agg #[.int .i64 z0, .int .i64 z1, .int .i64 z2, .int .i64 z3, .int .i64 z4, .int .i64 z5, .int .i64 z6, .int .i64 z7]) (.agg #[.int .i64 p0, .int .i64 p1, .int .i64 p2, .int .i64 p3, .int .i64 p4, .int .i64 p5, .int .i64 p6, .int .i64 p7])).run Tryd.prog w = .ok (decide ([z0, z1, z2, z3, z4, z5, z6, z7] = [p0, p1, p2, p3, p4, p5, p6, p7])) w := by
  have hs : (sizeOf 3).run Tryd.prog w = .ok 1 w := Tryd.sizeOf3 w
  rw [show (10000 : Nat) = 9999 + 1 from rfl, Op.equalIn]
  simp only [Sem.run_bind, run_underlying Tryd.underlying119, Result.andThen_ok, hs]
  rw [Std.Legacy.Range.forIn_eq_forIn_range']
  have h := eqPlaces 9998 w [z0, z1, z2, z3, z4, z5, z6, z7] [p0, p1, p2, p3, p4, p5, p6, p7] rfl (List.range' 0 8) (fun i hi => by simp at hi; exact hi)
  have hr : List.range' ([:8] : Std.Legacy.Range).start ([:8] : Std.Legacy.Range).size ([:8] : Std.Legacy.Range).step = List.range' 0 8 := by decide
  rw [hr]
  simp only [List.map_cons, List.map_nil, Nat.reduceAdd] at h
  rw [h]
  simp only [Result.andThen_ok]
  by_cases he : [z0, z1, z2, z3, z4, z5, z6, z7] = [p0, p1, p2, p3, p4, p5, p6, p7]
  · rw [if_pos (fun i _ => by rw [he]), decide_eq_true he]; rfl
  · rw [if_neg (fun h => he (List.ext_getElem? fun i => by
      by_cases hi : i < 8
      · exact h i (by simp; exact hi)
      · rw [List.getElem?_eq_none (by simp; omega), List.getElem?_eq_none (by simp; omega)])), decide_eq_false he]; rfl
theorem knownGuard : Tryd.prog.eqGuardType Tryd.prog.depth 119 = false := by kernel_rfl
end Go.Proofs.YtabcjdalifhpdaaDoor
