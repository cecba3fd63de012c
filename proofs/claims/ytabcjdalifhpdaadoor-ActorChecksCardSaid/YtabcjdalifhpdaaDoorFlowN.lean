/- What the document's flow holds in memory. No condition; no run. -/
import Derived.Test.YtabcjdalifhpdaaDoorFlowM
import Derived.Test.YtabcjdalifhpdaaDoorRefV
namespace Go.Proofs.YtabcjdalifhpdaaDoor
open Go.RowKit

/-- A list of numbers, as an element: one cell. -/
def liE : El (List Int) := slE iE (by decide)
section
variable {B : Nat} {w0 w w' : World} {R R' : List Res}
theorem rdI_cellsB {l : List Int} {b : Nat} {t : TypeId} (h : w.heap[b]? = some (.cells (l.map (.int .i64)).toArray t (0, 0))) (hs : l.length * 8 ≤ 140737488355328) : RdSl iE w (fun k => k = b) (.slice (some ⟨b, 0, none⟩) l.length l.length) l :=
  ⟨some ⟨b, 0, none⟩, l.length, rfl, Nat.le_refl _, by unfold maxLen; omega, hs, fun _ => ⟨b, 0, rfl, rfl, fun i x hx => ⟨[.int .i64 x], rfl, rfl, fun j u hu => by
    match j, hu with
    | 0, hu =>
      cases hu
      simp [World.cell?, h, iE, hx]⟩⟩⟩
/-- A block of numbers of the call's own is read from now on. -/
theorem St.blkI (h : St B w0 w R) (i : Nat) {b n : Nat} {t : TypeId} {l : List Int} (hi : R[i]? = some (.blk b (l.map (.int .i64)).toArray t)) (hs : l.length * 8 ≤ 140737488355328) (hn : n ≤ b) :
    RdSl iE w (Fr n (R.eraseIdx i)) (.slice (some ⟨b, 0, none⟩) l.length l.length) l := by
  refine (rdI_cellsB (h.heap i hi) hs).keep (by decide) (fun k hk hb => ⟨⟨by omega, fun r hr hf => ?_⟩, rfl⟩)
  subst hb
  obtain ⟨hil, he⟩ := List.getElem?_eq_some_iff.1 hi
  obtain ⟨j, hj⟩ := List.getElem?_of_mem hr
  rw [List.getElem?_eraseIdx] at hj
  have key : ∀ m : Nat, m ≠ i → R[m]? = some r → False := fun m hne hm => by
    rcases Nat.lt_or_gt_of_ne hne with hlt | hgt
    · exact h.ne m i hlt hm hi hf (show k = k from rfl) rfl
    · exact h.ne i m hgt hi hm (show k = k from rfl) hf rfl
  by_cases hji : j < i
  · rw [if_pos hji] at hj; exact key j (by omega) hj
  · rw [if_neg hji] at hj; exact key (j + 1) (by omega) hj
end
theorem Held.at_l {w : World} {S : Nat → Prop} {css : List (List Value)} {st : List (List Int)} (h : Held liE w S css st) {i : Nat} {k : List Int} (hk : st[i]? = some k) : ∃ b d, css[i]? = some [.slice b k.length d] ∧ RdSl iE w S (.slice b k.length d) k := by
  have hc : css[i]? = some (css[i]'(by rw [h.len]; exact (List.getElem?_eq_some_iff.1 hk).1)) := List.getElem?_eq_getElem _
  obtain ⟨_, v, hv, hr⟩ := h.each i k _ hk hc
  obtain ⟨b, d, rfl, _⟩ := hr.form
  exact ⟨b, d, by rw [hc, hv], hr⟩
theorem cat_set1 {css : List (List Value)} (hs : ∀ cs ∈ css, cs.length = 1) {t : Nat} (ht : t < css.length) (u : Value) : (cat css).set t u = cat (css.set t [u]) := by
  have h0 : css[t]? = some css[t] := List.getElem?_eq_getElem ht
  have h1 := flat_set (i := t) (j := 0) u hs h0 (by decide)
  have h2 := hs _ (List.getElem_mem ht)
  unfold cat
  rw [Nat.mul_one, Nat.add_zero] at h1
  rw [← h1]
  match css[t], h2 with
  | [a], _ => rfl
theorem nils_held {w : World} {S : Nat → Prop} (n : Nat) : Held liE w S (List.replicate n [.slice none 0 0]) (List.replicate n []) := ⟨by simp, fun i x cs hx hc => by
  simp only [List.getElem?_replicate] at hx hc
  split at hx
  · rename_i h
    simp only [h, if_true] at hc
    cases hx; cases hc
    exact ⟨rfl, _, rfl, ⟨none, 0, rfl, Nat.le_refl _, Nat.zero_le _, by simp, fun h => absurd rfl h⟩⟩
  · cases hx⟩
theorem cat_nils : ∀ n : Nat, List.replicate n (Value.slice none 0 0) = cat (List.replicate n [.slice none 0 0])
  | 0 => rfl
  | n + 1 => by
    have := cat_nils n
    unfold cat at *
    rw [List.replicate_succ (n := n), List.replicate_succ (n := n), List.flatten_cons, ← this]
    rfl
/-- Joined up to register r, zeros behind. -/
def joinZ (x k : List Int) (r : Nat) : List Int := (x.take r).zipWith joinN (k.take r) ++ List.replicate (8 - r) 0
theorem joinZ_zero (x k : List Int) : joinZ x k 0 = List.replicate 8 0 := by simp [joinZ]
theorem joinZ_all {x k : List Int} (h : x.length = 8) (h' : k.length = 8) : joinZ x k 8 = x.zipWith joinN k := by
  unfold joinZ
  rw [List.take_of_length_le (by omega), List.take_of_length_le (by omega)]
  simp
theorem joinZ_len {x k : List Int} {r : Nat} (h : x.length = 8) (h' : k.length = 8) (hr : r ≤ 8) : (joinZ x k r).length = 8 := by simp [joinZ, h, h']; omega
theorem joinZ_next {x k : List Int} {r : Nat} {a b : Int} (h : x.length = 8) (h' : k.length = 8) (ha : x[r]? = some a) (hb : k[r]? = some b) : (joinZ x k r).set r (joinN a b) = joinZ x k (r + 1) := by
  obtain ⟨hl, he⟩ := List.getElem?_eq_some_iff.1 ha
  unfold joinZ
  rw [List.set_append_right _ _ (by simp; omega)]
  have e1 : ((x.take r).zipWith joinN (k.take r)).length = r := by simp; omega
  have e2 : 8 - r = (8 - (r + 1)) + 1 := by omega
  rw [e1, Nat.sub_self, e2, List.replicate_succ, List.set_cons_zero, List.take_add_one, ha, List.take_add_one, hb]
  simp only [Option.toList_some]
  rw [List.zipWith_append (by simp; omega)]
  simp
def FlowOfD (w : World) (l : List Ins) (en : Ending) (w' : World) : Prop :=
  ∃ A c, en = .returned (.slice A l.length c) ∧ RdSl liE w' (fun b => w.heap.size ≤ b) (.slice A l.length c) (flowL l) ∧ Below w.heap.size w w'
theorem stepT_same {k xs : List Int} {x : Int} {st : List (List Int)} {f : Bool} {t : Nat} (h : st[t]? = some (x :: xs)) (he : (x :: xs).zipWith joinN k = x :: xs) : stepT k (st, f) (t : Int) = (st, f) := by
  rw [stepT_old h, he]
  obtain ⟨hl, hx⟩ := List.getElem?_eq_some_iff.1 h
  rw [← hx, List.set_getElem_self]
  simp
theorem stepT_diff {k xs : List Int} {x : Int} {st : List (List Int)} {f : Bool} {t : Nat} (h : st[t]? = some (x :: xs)) (he : (x :: xs).zipWith joinN k ≠ x :: xs) : stepT k (st, f) (t : Int) = (st.set t ((x :: xs).zipWith joinN k), true) := by
  rw [stepT_old h, decide_eq_true he, Bool.or_true]

noncomputable def typesP (ps : List (List Ins)) (kd : Int) : List (List Int) × Int :=
  if progF ps ≠ 0 then ([], progF ps) else if ¬ (0 ≤ kd ∧ kd < ps.length) then ([], 6) else (flowL (ps.getD kd.toNat []), 0)
theorem typesP_bad {ps : List (List Ins)} {kd : Int} (h : progF ps ≠ 0) : typesP ps kd = ([], progF ps) := if_pos h
theorem typesP_none {ps : List (List Ins)} {kd : Int} (h : progF ps = 0) (hk : ¬ (0 ≤ kd ∧ kd < ps.length)) : typesP ps kd = ([], 6) := by
  unfold typesP
  rw [if_neg (by simp [h]), if_pos hk]
theorem typesP_ok {ps : List (List Ins)} {k : Nat} {l : List Ins} (h : progF ps = 0) (hl : ps[k]? = some l) : typesP ps (k : Int) = (flowL l, 0) := by
  have := (List.getElem?_eq_some_iff.1 hl).1
  unfold typesP
  rw [if_neg (by simp [h]), if_neg (by omega), Int.toNat_natCast, List.getD_eq_getElem?_getD, hl]
  rfl
def TypesD (w : World) (r : List (List Int) × Int) (en : Ending) (w' : World) : Prop :=
  ∃ A c, en = .returned (.tuple #[.slice A r.1.length c, .int .i64 r.2]) ∧ RdSl liE w' (fun b => w.heap.size ≤ b) (.slice A r.1.length c) r.1 ∧ Below w.heap.size w w'
theorem rdl_nil {w : World} {S : Nat → Prop} : RdSl liE w S (.slice none 0 0) [] := ⟨none, 0, rfl, Nat.le_refl _, Nat.zero_le _, by simp, fun h => absurd rfl h⟩
theorem rdl_nili {w : World} {S : Nat → Prop} : RdSl iE w S (.slice none 0 0) [] := ⟨none, 0, rfl, Nat.le_refl _, Nat.zero_le _, by simp, fun h => absurd rfl h⟩
/-- A row of eight, read as a slice of its array. -/
theorem rd_ksub {w : World} {S : Nat → Prop} {A : Option Addr} {n c : Nat} {ks : List (List Int)} (h : RdSl knE w S (.slice A n c) ks) {i : Nat} {k : List Int} (hx : ks[i]? = some k) (h8 : k.length = 8) :
    ∃ b o, A = some ⟨b, o, none⟩ ∧ RdSl iE w S (.slice (some ⟨b, o + i * 8, none⟩) 8 8) k := by
  obtain ⟨b, o, cs, hA, hS, _, ⟨rfl, _⟩, hc⟩ := h.at_ hx
  refine ⟨b, o, hA, _, 8, by rw [h8], by omega, by decide, by rw [h8]; decide, fun _ => ⟨b, o + i * 8, rfl, hS, fun j x hj => ⟨[.int .i64 x], rfl, rfl, fun m u hu => ?_⟩⟩⟩
  match m, hu with
  | 0, hu =>
    cases hu
    have := hc j (.int .i64 x) (by simp [hj])
    simpa [iE, knE] using this
end Go.Proofs.YtabcjdalifhpdaaDoor
