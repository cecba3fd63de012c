/- Still more of a call's own things: in another order; made rows; rows of eight numbers, and of truth values. No condition. -/
import Derived.Test.YtabcjdalifhpdaaDoorStA
import Derived.Test.YtabcjdalifhpdaaDoorRegion
import Derived.OwnWalk
namespace Go.Proofs.YtabcjdalifhpdaaDoor
open Go.RowKit
section
variable {B : Nat} {w0 w w' : World} {R R' : List Res}
theorem St.perm (h : St B w0 w R) (hp : R.Perm R') : St B w0 w R' ∧ Keeps w R w R' :=
 ⟨⟨h.below, fun r hr => h.ok r (hp.mem_iff.2 hr), fun r hr => h.foot r (hp.mem_iff.2 hr), (hp.pairwise_iff (fun hrs b hs hr => hrs b hr hs)).1 h.apart, h.base⟩,
  fun _ _ hf => ⟨fun r hr => hf r (hp.mem_iff.2 hr), rfl⟩⟩
theorem St.drewN9 (h : St B w0 w R) (n : Nat) : St B w0 (w.drewN n) R ∧ Keeps w R (w.drewN n) R :=
 ⟨⟨⟨h.below.os, h.below.tape, h.below.output, h.below.size, h.below.block⟩, fun r hr => r.stab (w := w) (fun _ _ => rfl) (h.ok r hr), h.foot, h.apart, h.base⟩, fun _ _ hf => ⟨hf, rfl⟩⟩
theorem St.ne (h : St B w0 w R) (i j : Nat) (hij : i < j) {r s : Res} (hi : R[i]? = some r) (hj : R[j]? = some s) {b c : Nat} (hb : r.foot b) (hc : s.foot c) : b ≠ c := fun e => by
 subst e;obtain ⟨hil, e1⟩ := List.getElem?_eq_some_iff.1 hi;obtain ⟨hjl, e2⟩ := List.getElem?_eq_some_iff.1 hj;have := List.pairwise_iff_getElem.1 h.apart i j hil hjl hij b;rw [e1, e2] at this;exact this hb hc
theorem made_list {z : Array Value} {u : Value} (hs : 0 < z.size) (hz : ∀ i, i < z.size → z[i]! = u) (n : Nat) : (madeCells z n).toList = List.replicate n u := by
 apply List.ext_getElem?
 intro i;simp only [madeCells, Array.toList_map, Array.toList_range, List.getElem?_map, List.getElem?_replicate];by_cases hi : i < n
 ·simp [hi]
  exact hz _ (Nat.mod_lt _ hs)
 ·rw [List.getElem?_eq_none (by simp; omega)];simp [hi]
structure Alike1 (z : Array Value) (u : Value) : Prop where
 pos : 0 < z.size
 all : ∀ i, i < z.size → z[i]! = u
theorem made_rep {w : World} {base : Nat} {e : TypeId} {size n m : Nat} {v : Value} {z : Array Value} {u : Value} (a : Alike1 z u) (h : w.ownsRow base e size v n (madeCells z m).toList) : w.ownsRow base e size v n (List.replicate m u) := by
 rw [made_list a.pos a.all] at h;exact h
theorem alike_bool : Alike1 (Value.bool false).cells (.bool false) := ⟨by decide, fun i h => by
 match i, h with
 | 0, _ => rfl⟩
theorem alike_int : Alike1 (Value.int .i64 0).cells (.int .i64 0) := ⟨by decide, fun i h => by
 match i, h with
 | 0, _ => rfl⟩
theorem alike_slice : Alike1 (Value.slice none 0 0).cells (.slice none 0 0) := ⟨by decide, fun i h => by
 match i, h with
 | 0, _ => rfl⟩
theorem alike_v : Alike1 (Value.agg #[.int .i64 0, .int .i64 0]).cells (.int .i64 0) := ⟨by decide, fun i h => by
 match i, h with
 | 0, _ => rfl
 | 1, _ => rfl⟩
theorem alike_n : Alike1 (Value.agg #[.int .i64 0, .int .i64 0, .int .i64 0, .int .i64 0]).cells (.int .i64 0) := ⟨by decide, fun i h => by
 match i, h with
 | 0, _ => rfl
 | 1, _ => rfl
 | 2, _ => rfl
 | 3, _ => rfl⟩
theorem alike_known : Alike1 (Value.agg #[.int .i64 0, .int .i64 0, .int .i64 0, .int .i64 0, .int .i64 0, .int .i64 0, .int .i64 0, .int .i64 0]).cells (.int .i64 0) := ⟨by decide, fun i h => by
 match i, h with
 | 0, _ => rfl
 | 1, _ => rfl
 | 2, _ => rfl
 | 3, _ => rfl
 | 4, _ => rfl
 | 5, _ => rfl
 | 6, _ => rfl
 | 7, _ => rfl⟩
def rowsK (ks : List (List Int)) : List (List Value) := ks.map (fun k => k.map (.int .i64))
theorem rowsK_size {ks : List (List Int)} {m : Nat} (h : ∀ k ∈ ks, k.length = m) : ∀ cs ∈ rowsK ks, cs.length = m := fun cs hc => by
 obtain ⟨k, hk, rfl⟩ := List.mem_map.1 hc;simpa using h k hk
theorem rowsK_set (ks : List (List Int)) (t : Nat) (k : List Int) : (rowsK ks).set t (k.map (.int .i64)) = rowsK (ks.set t k) := by simp [rowsK, List.map_set]
theorem rowsK_zero (n m : Nat) : cat (rowsK (List.replicate n (List.replicate m 0))) = List.replicate (n * m) (.int .i64 0) := by
 induction n with
 | zero => simp [rowsK, cat]
 | succ n ih =>
  unfold rowsK cat at *;rw [List.replicate_succ, List.map_cons, List.flatten_cons, ih, List.map_replicate, Nat.succ_mul, Nat.add_comm];simp
theorem St.kCell (h : St B w0 w R) (i : Nat) {base n c g m : Nat} {e : TypeId} {ks : List (List Int)} (hi : R[i]? = some (.row base e m (.slice (some ⟨g, 0, none⟩) n c) n (cat (rowsK ks)))) (hs : ∀ k ∈ ks, k.length = m) {t : Nat} {k : List Int} (ht : ks[t]? = some k) {j : Nat} {x : Int} (hj : k[j]? = some x) :
  w.cell? ⟨g, t * m + j, none⟩ = some (.int .i64 x) :=
 h.rowCell i hi (rowsK_size hs) (k := t) (cs := k.map (.int .i64)) (by simp [rowsK, ht]) (by simp [hj])
theorem St.kPut (h : St B w0 w R) (i t j : Nat) (x : Int) {base n c g m : Nat} {e : TypeId} {ks : List (List Int)} (hi : R[i]? = some (.row base e m (.slice (some ⟨g, 0, none⟩) n c) n (cat (rowsK ks)))) (hs : ∀ k ∈ ks, k.length = m) {k : List Int} (ht : ks[t]? = some k) (hj : j < m) :
  St B w0 (w.setCell ⟨g, t * m + j, none⟩ (.int .i64 x)) (R.set i (.row base e m (.slice (some ⟨g, 0, none⟩) n c) n (cat (rowsK (ks.set t (k.set j x)))))) ∧
   Keeps w R (w.setCell ⟨g, t * m + j, none⟩ (.int .i64 x)) (R.set i (.row base e m (.slice (some ⟨g, 0, none⟩) n c) n (cat (rowsK (ks.set t (k.set j x)))))) := by
 have h1 := h.rowPut i (t * m + j) (.int .i64 x) hi;have h2 : (cat (rowsK ks)).set (t * m + j) (.int .i64 x) = cat (rowsK (ks.set t (k.set j x))) := by
  unfold cat;rw [← flat_set (.int .i64 x) (rowsK_size hs) (show (rowsK ks)[t]? = some (k.map (.int .i64)) by simp [rowsK, ht]) hj, ← List.map_set, rowsK_set]
 rw [h2] at h1;exact h1
theorem St.kPut8 (h : St B w0 w R) (i t : Nat) {base n c g : Nat} {e : TypeId} {ks : List (List Int)} (hi : R[i]? = some (.row base e 8 (.slice (some ⟨g, 0, none⟩) n c) n (cat (rowsK ks)))) (hs : ∀ k ∈ ks, k.length = 8) (ht : t < ks.length) (x0 x1 x2 x3 x4 x5 x6 x7 : Int) :
  St B w0 ((((((((w.setCell ⟨g, t * 8, none⟩ (.int .i64 x0)).setCell ⟨g, t * 8 + 1, none⟩ (.int .i64 x1)).setCell ⟨g, t * 8 + 2, none⟩ (.int .i64 x2)).setCell ⟨g, t * 8 + 3, none⟩ (.int .i64 x3)).setCell ⟨g, t * 8 + 4, none⟩ (.int .i64 x4)).setCell ⟨g, t * 8 + 5, none⟩ (.int .i64 x5)).setCell ⟨g, t * 8 + 6, none⟩ (.int .i64 x6)).setCell ⟨g, t * 8 + 7, none⟩ (.int .i64 x7))
    (R.set i (.row base e 8 (.slice (some ⟨g, 0, none⟩) n c) n (cat (rowsK (ks.set t [x0, x1, x2, x3, x4, x5, x6, x7]))))) ∧
   Keeps w R ((((((((w.setCell ⟨g, t * 8, none⟩ (.int .i64 x0)).setCell ⟨g, t * 8 + 1, none⟩ (.int .i64 x1)).setCell ⟨g, t * 8 + 2, none⟩ (.int .i64 x2)).setCell ⟨g, t * 8 + 3, none⟩ (.int .i64 x3)).setCell ⟨g, t * 8 + 4, none⟩ (.int .i64 x4)).setCell ⟨g, t * 8 + 5, none⟩ (.int .i64 x5)).setCell ⟨g, t * 8 + 6, none⟩ (.int .i64 x6)).setCell ⟨g, t * 8 + 7, none⟩ (.int .i64 x7))
    (R.set i (.row base e 8 (.slice (some ⟨g, 0, none⟩) n c) n (cat (rowsK (ks.set t [x0, x1, x2, x3, x4, x5, x6, x7]))))) ∧
   ((((((((w.setCell ⟨g, t * 8, none⟩ (.int .i64 x0)).setCell ⟨g, t * 8 + 1, none⟩ (.int .i64 x1)).setCell ⟨g, t * 8 + 2, none⟩ (.int .i64 x2)).setCell ⟨g, t * 8 + 3, none⟩ (.int .i64 x3)).setCell ⟨g, t * 8 + 4, none⟩ (.int .i64 x4)).setCell ⟨g, t * 8 + 5, none⟩ (.int .i64 x5)).setCell ⟨g, t * 8 + 6, none⟩ (.int .i64 x6)).setCell ⟨g, t * 8 + 7, none⟩ (.int .i64 x7)).heap.size = w.heap.size := by
 have hil : i < R.length := (List.getElem?_eq_some_iff.1 hi).1;obtain ⟨k, hk⟩ : ∃ k, ks[t]? = some k := ⟨_, List.getElem?_eq_getElem ht⟩;have hk8 := hs k (List.mem_of_getElem? hk);let rw_ : List Int → Res := fun q => .row base e 8 (.slice (some ⟨g, 0, none⟩) n c) n (cat (rowsK (ks.set t q)))
 let Inv : World → List Int → Prop := fun w1 q => q.length = 8 ∧ St B w0 w1 (R.set i (rw_ q)) ∧ Keeps w R w1 (R.set i (rw_ q)) ∧ w1.heap.size = w.heap.size
 have step : ∀ (j : Nat) (x : Int) (w1 : World) (q : List Int), j < 8 → Inv w1 q → Inv (w1.setCell ⟨g, t * 8 + j, none⟩ (.int .i64 x)) (q.set j x) := fun j x w1 q hj ⟨hq, h1, h2, h3⟩ => by
  have hx : (R.set i (rw_ q))[i]? = some (rw_ q) := List.getElem?_set_self hil;have hs' : ∀ k' ∈ ks.set t q, k'.length = 8 := fun k' hk' => by
   rcases List.mem_or_eq_of_mem_set hk' with h | rfl
   ·exact hs _ h
   ·exact hq
  have h4 := h1.kPut i t j x hx hs' (k := q) (List.getElem?_set_self ht) hj;rw [List.set_set, List.set_set] at h4;exact ⟨by simpa using hq, h4.1, h2.trans (by omega) h4.2, by rw [← h3]; simp⟩
 have h0 : Inv w k := by
  have e1 : ks.set t k = ks := (by rw [← (List.getElem?_eq_some_iff.1 hk).2, List.set_getElem_self]);have e2 : R.set i (rw_ k) = R := by
   show R.set i (.row base e 8 (.slice (some ⟨g, 0, none⟩) n c) n (cat (rowsK (ks.set t k)))) = R
   rw [e1, ← (List.getElem?_eq_some_iff.1 hi).2, List.set_getElem_self]
  show k.length = 8 ∧ St B w0 w (R.set i (rw_ k)) ∧ Keeps w R w (R.set i (rw_ k)) ∧ w.heap.size = w.heap.size
  rw [e2];exact ⟨hk8, h, .refl, rfl⟩
 have h8 := step 7 x7 _ _ (by decide) (step 6 x6 _ _ (by decide) (step 5 x5 _ _ (by decide) (step 4 x4 _ _ (by decide) (step 3 x3 _ _ (by decide) (step 2 x2 _ _ (by decide) (step 1 x1 _ _ (by decide) (step 0 x0 _ _ (by decide) h0)))))));have hA : (((((((k.set 0 x0).set 1 x1).set 2 x2).set 3 x3).set 4 x4).set 5 x5).set 6 x6).set 7 x7 = [x0, x1, x2, x3, x4, x5, x6, x7] := by
  match k, hk8 with
  | [a0, a1, a2, a3, a4, a5, a6, a7], _ => simp
 rw [hA] at h8;exact h8.2
theorem St.yCell (h : St B w0 w R) (i : Nat) {base n c g : Nat} {e : TypeId} {bs : List Bool} (hi : R[i]? = some (.row base e 1 (.slice (some ⟨g, 0, none⟩) n c) n (bs.map .bool))) {t : Nat} {b : Bool} (ht : bs[t]? = some b) : w.cell? ⟨g, t, none⟩ = some (.bool b) := by
 have := (h.own i hi).cells (g := g) rfl t (.bool b) (by simp [ht]);rw [addr_add, Nat.zero_add] at this;exact this
theorem St.yPut (h : St B w0 w R) (i t : Nat) (b : Bool) {base n c g : Nat} {e : TypeId} {bs : List Bool} (hi : R[i]? = some (.row base e 1 (.slice (some ⟨g, 0, none⟩) n c) n (bs.map .bool))) :
  St B w0 (w.setCell ⟨g, t, none⟩ (.bool b)) (R.set i (.row base e 1 (.slice (some ⟨g, 0, none⟩) n c) n ((bs.set t b).map .bool))) ∧ Keeps w R (w.setCell ⟨g, t, none⟩ (.bool b)) (R.set i (.row base e 1 (.slice (some ⟨g, 0, none⟩) n c) n ((bs.set t b).map .bool))) := by
 have := h.rowPut i t (.bool b) hi;rw [← List.map_set] at this;exact this
end
end Go.Proofs.YtabcjdalifhpdaaDoor
