/- What is cleared up is the same but for places; what goes to another heap is the same there, in plain Lean. No condition; no run. -/
import Derived.Test.YtabcjdalifhpdaaFormP
import Derived.Test.YtabcjdalifhpdaaSetGetsP
namespace Go.Proofs.Ytabcjdalifhpdaa
open Go.RowKit
section
variable {os : List Ob}
theorem kept_at {K : List Int} {x : Int} (hx : x ∈ K) : ((K.map (keptO os K))[(plM 0 K x).toNat]?) = some (keptO os K x) := by
 have e : plM 0 K x = ((K.idxOf x : Nat) : Int) := by
  unfold plM;rw [if_pos hx];simp
 have hl := List.idxOf_lt_length_of_mem hx;rw [e, Int.toNat_natCast, List.getElem?_map, List.getElem?_eq_getElem hl, List.getElem_idxOf hl];rfl
theorem plM_inj {n : Nat} {K : List Int} {x y : Int} (hx : x ∈ K) (hy : y ∈ K) (e : plM n K x = plM n K y) : x = y := by
 unfold plM at e;rw [if_pos hx, if_pos hy] at e;have hl := List.idxOf_lt_length_of_mem hx;have hl' := List.idxOf_lt_length_of_mem hy;have e' : K.idxOf x = K.idxOf y := (by omega);have h1 := List.getElem_idxOf hl;have h2 := List.getElem_idxOf hl';rw [← h1, ← h2];congr 1
end
theorem newV_fix {f : Int → Int} {l : List V} (h : ∀ v ∈ l, v.k = 2 → f v.n = v.n) : l.map (newV f) = l := by
 conv => rhs; rw [← List.map_id l]
 refine List.map_congr_left fun v hv => ?_;show newV f v = v
 unfold newV;split
 ·rename_i hk
  rw [h v hv hk]
  cases v
  simp_all
 ·rfl
theorem coll_same {m : Int} {os : List Ob} {rs : List V} (hp : hpB ⟨m, os⟩ rs = true) : ∃ (l : List Int) (o1 o2 : List Ob) (s : List V),
  reachL os rs = l ∧ collH ⟨m, os⟩ rs l = ⟨m, o1⟩ ∧ collV ⟨m, os⟩ rs l = s ∧ s.length = rs.length ∧ o1.length = l.length ∧ hpB ⟨m, o1⟩ s = true ∧ formL o1 s = formL os rs ∧
  collH ⟨m, o1⟩ s (reachL o1 s) = ⟨m, o2⟩ ∧ collV ⟨m, o1⟩ s (reachL o1 s) = s ∧ o2.length = l.length := by
 obtain ⟨l, hl, ht⟩ := HpOk.led hp;have hn : ¬ hpB ⟨m, os⟩ rs = false := (by simp [hp]);have e1 : collH ⟨m, os⟩ rs l = ⟨m, (keepL os.length l).map (keptO os (keepL os.length l))⟩ := (by unfold collH; rw [if_neg hn]);have e2 : collV ⟨m, os⟩ rs l = rs.map (newV (plM 0 (keepL os.length l))) := (by unfold collV; rw [if_neg hn]);have hc := coll_ok hp hl ht;have hK := keepL_full ht;have hin : ∀ x, x ∈ l → x ∈ keepL os.length l := fun x hx => keepL_mem.2 ⟨hx, ht.within x hx⟩;have hout : ∀ x, x ∈ keepL os.length l → x ∈ l := fun x hx => (keepL_mem.1 hx).1;have hnd := keepL_nodup os.length l;rw [e1, e2] at hc;generalize keepL os.length l = K at *;obtain ⟨f1, f2⟩ := form_iso (os' := K.map (keptO os K)) (f := plM 0 K) hl (fun a ha b hb e => plM_inj (hin a ha) (hin b hb) e) (fun x hx => by
  unfold fieldsOf;rw [kept_at (hin x hx)];rfl)
 have hn2 : ¬ hpB ⟨m, K.map (keptO os K)⟩ (rs.map (newV (plM 0 K))) = false := (by simp [hc]);have hmem : ∀ n : Nat, n < K.length → (n : Int) ∈ l.map (plM 0 K) := fun n hk => by
  refine List.mem_map.2 ⟨K[n], hout _ (List.getElem_mem hk), ?_⟩;rw [plM_at hnd (List.getElem?_eq_getElem hk), Nat.zero_add]
 have hK2 : keepL K.length (l.map (plM 0 K)) = (List.range K.length).map (fun (i : Nat) => (i : Int)) := by
  unfold keepL;rw [List.filter_eq_self];intro x hx;obtain ⟨n, hn, rfl⟩ := List.mem_map.1 hx;exact decide_eq_true (hmem n (List.mem_range.1 hn))
 have hat : ∀ n : Nat, n < K.length → plM 0 ((List.range K.length).map (fun (i : Nat) => (i : Int))) (n : Int) = n := fun n hk => by
  rw [plM_at (k := n) ?_ ?_, Nat.zero_add]
  ·rw [← hK2]; exact keepL_nodup _ _
  ·simp [hk]
 refine ⟨l, _, (List.range K.length).map (fun (i : Nat) => keptO (K.map (keptO os K)) ((List.range K.length).map (fun (i : Nat) => (i : Int))) (i : Int)), _, reachL_is hl, e1, e2, by simp, by simp [hK], hc, f2, ?_, ?_, ?_⟩
 ·rw [f1];unfold collH;rw [if_neg hn2];show (⟨m, (keepL (K.map (keptO os K)).length (l.map (plM 0 K))).map _⟩ : Hp) = _
  rw [List.length_map, hK2, List.map_map];rfl
 ·rw [f1];unfold collV;rw [if_neg hn2];show (rs.map (newV (plM 0 K))).map (newV (plM 0 (keepL (K.map (keptO os K)).length (l.map (plM 0 K))))) = _
  rw [List.length_map, hK2];refine newV_fix fun v hv hk => ?_;have hb := valB_ref' ((hpB_iff.1 hc).2 v hv) hk;simp only [List.length_map] at hb;obtain ⟨n, hn⟩ := Int.eq_ofNat_of_zero_le hb.1;rw [hn];exact hat n (by omega)
 ·simp [hK]
theorem trans_same {m m2 : Int} {os ts : List Ob} {v : V} (hf : GoodH m os) (hg : GoodH m2 ts) {i : Nat} (hi : i < os.length) (hv : v = ⟨2, (i : Int)⟩) (move : Bool) : ∃ l : List Int, reachL os [v] = l ∧ l.length ≤ os.length ∧
  (m2 < (ts.length : Int) + (l.length : Int) → transE ⟨m, os⟩ v ⟨m2, ts⟩ l = 7) ∧
  (¬ m2 < (ts.length : Int) + (l.length : Int) → ∃ (x y : List Ob) (u : V), transE ⟨m, os⟩ v ⟨m2, ts⟩ l = 0 ∧ transFrom ⟨m, os⟩ v ⟨m2, ts⟩ l move = ⟨m, x⟩ ∧ transTo ⟨m, os⟩ v ⟨m2, ts⟩ l = ⟨m2, y⟩ ∧ transV ⟨m, os⟩ v ⟨m2, ts⟩ l = u ∧
   hpB ⟨m2, y⟩ [u] = true ∧ formL y [u] = formL os [v] ∧ y.length = ts.length + l.length ∧ hpB ⟨m2, y⟩ (refsTo ts.length) = true ∧ formL y (refsTo ts.length) = formL ts (refsTo ts.length) ∧ x.length = os.length ∧
   (∀ (j : Nat) (o : Ob), x[j]? = some o → o.dead = (move && decide ((j : Int) ∈ l))) ∧ gotE m x v 0 = (if move = true then 10 else 0) ∧ transE ⟨m, x⟩ v ⟨m2, ts⟩ (reachL x [v]) = (if move = true then 10 else 0)) := by
 subst hv;have hp : hpB ⟨m, os⟩ [⟨2, (i : Int)⟩] = true := good_hp hf (by simp [ref_val hi]);have hq : hpB ⟨m2, ts⟩ (refsTo ts.length) = true := good_hp hg (List.all_eq_true.2 fun v hv => by
  obtain ⟨n, hn, rfl⟩ := List.mem_map.1 hv;exact ref_val (List.mem_range.1 hn))
 have hq0 : hpB ⟨m2, ts⟩ [] = true := hg.may;obtain ⟨l, hl, ht⟩ := HpOk.led hp;have hd : l.any (deadAt os) = false := List.any_eq_false.2 fun x hx => by
  have h : 0 ≤ x ∧ x < (os.length : Int) := ht.within x hx;obtain ⟨n, rfl⟩ := Int.eq_ofNat_of_zero_le h.1;have hn : n < os.length := (by have := h.2; omega);rw [deadAt_some (List.getElem?_eq_getElem hn), hf.alive _ (List.getElem_mem hn)];simp
 have hE : transE ⟨m, os⟩ ⟨2, (i : Int)⟩ ⟨m2, ts⟩ l = if m2 < (ts.length : Int) + (l.length : Int) then 7 else 0 := by
  unfold transE;rw [if_neg (by simp [hp]), if_neg (by simp [hq0]), if_neg (by simp [hd])]
 refine ⟨l, reachL_is hl, ht.len, fun h => by rw [hE, if_pos h], fun h => ?_⟩;have h0 : transE ⟨m, os⟩ ⟨2, (i : Int)⟩ ⟨m2, ts⟩ l = 0 := (by rw [hE, if_neg h]);obtain ⟨k1, k2⟩ := trans_ok (move := move) hp hq hl ht h0;have e1 : transFrom ⟨m, os⟩ ⟨2, (i : Int)⟩ ⟨m2, ts⟩ l move = ⟨m, movedL os (if move then l else [])⟩ := if_pos h0;have e2 : transTo ⟨m, os⟩ ⟨2, (i : Int)⟩ ⟨m2, ts⟩ l = ⟨m2, ts ++ l.map (fun i => ⟨(fieldsOf os i).map (newV (plM ts.length l)), false⟩)⟩ := by
  unfold transTo;rw [if_pos h0];exact congrArg (Hp.mk m2) partC_all
 have e3 : transV ⟨m, os⟩ ⟨2, (i : Int)⟩ ⟨m2, ts⟩ l = newV (plM ts.length l) ⟨2, (i : Int)⟩ := if_pos h0;rw [e1] at k1;rw [e2, e3] at k2;have k2' := hpB_iff.1 k2;have hroot := hl.roots ⟨2, (i : Int)⟩ (by simp) rfl;refine ⟨_, _, _, h0, e1, e2, e3, hpB_iff.2 ⟨k2'.1, fun u hu => k2'.2 u (List.mem_append_right _ hu)⟩, ?_, by simp, hpB_iff.2 ⟨k2'.1, fun u hu => k2'.2 u (List.mem_append_left _ hu)⟩, ?_, movedL_len _ _, ?_, ?_, ?_⟩
 ·refine (form_iso (f := plM ts.length l) hl (fun a ha b hb e => plM_inj ha hb e) (fun x hx => ?_)).2;have hidx := List.idxOf_lt_length_of_mem hx;have e : plM ts.length l x = ((ts.length + l.idxOf x : Nat) : Int) := by
   unfold plM;rw [if_pos hx];omega
  rw [e, fieldsOf_some (o := ⟨(fieldsOf os x).map (newV (plM ts.length l)), false⟩) ?_];rw [List.getElem?_append_right (by omega), Nat.add_sub_cancel_left, List.getElem?_map, List.getElem?_eq_getElem hidx, List.getElem_idxOf hidx];rfl
 ·obtain ⟨r, hr, htr⟩ := HpOk.led hq;have hid : ∀ l : List V, l.map (newV (fun x => x)) = l := fun l => newV_fix fun _ _ _ => rfl;have := (form_iso (os' := ts ++ l.map (fun i => (⟨(fieldsOf os i).map (newV (plM ts.length l)), false⟩ : Ob))) (f := fun x => x) hr (fun a _ b _ e => e) (fun x hx => ?_)).2
  ·rw [hid] at this; exact this
  ·have h : 0 ≤ x ∧ x < (ts.length : Int) := htr.within x hx;obtain ⟨n, rfl⟩ := Int.eq_ofNat_of_zero_le h.1;have hn : n < ts.length := (by have := h.2; omega);rw [hid, fieldsOf_some (List.getElem?_eq_getElem hn), fieldsOf_some (o := ts[n])];rw [List.getElem?_append_left hn, List.getElem?_eq_getElem hn]
 ·intro j o ho;simp only [movedL, List.getElem?_mapIdx] at ho
  cases hg : os[j]? with
  | none => rw [hg] at ho; cases ho
  | some p =>
   rw [hg] at ho;injection ho with ho
   subst ho;have hp := hf.alive p (List.mem_of_getElem? hg)
   cases move
   ·simpa using hp
   ·by_cases hm : (j : Int) ∈ l
    ·simp [hm]
    ·simpa [hm] using hp
 ·cases move
  ·have e : movedL os (if (false : Bool) = true then l else []) = os := (by simpa using movedL_nil os);rw [e, gotE, if_pos hp, objectE_good hf (List.getElem?_eq_getElem hi)];have hob := obB_iff.1 ((hpB_iff.1 hp).1.objs _ (List.getElem_mem hi));have hne : (os[i]).fields ≠ [] := fun hc => by
    have := hob.2.2.2 hc;rw [hf.alive _ (List.getElem_mem hi)] at this
    cases this
   have := List.length_pos_iff.2 hne;rw [if_neg (by omega)];rfl
  ·have hx : (movedL os l)[i]? = some ⟨[], true⟩ := by
    simp only [movedL, List.getElem?_mapIdx, List.getElem?_eq_getElem hi, Option.map_some];rw [if_pos hroot]
   rw [gotE, if_pos k1];simp [objectE, hx]
 ·cases move
  ·have e : movedL os (if (false : Bool) = true then l else []) = os := (by simpa using movedL_nil os);rw [e, reachL_is hl];exact h0
  ·obtain ⟨r, hr, htr⟩ := HpOk.led k1;have hm := hr.roots ⟨2, (i : Int)⟩ (by simp) rfl;have hx : (movedL os l)[i]? = some ⟨[], true⟩ := by
    simp only [movedL, List.getElem?_mapIdx, List.getElem?_eq_getElem hi, Option.map_some];rw [if_pos hroot]
   have hdd : r.any (deadAt (movedL os l)) = true := List.any_eq_true.2 ⟨_, hm, deadAt_some hx⟩;show transE ⟨m, movedL os l⟩ ⟨2, (i : Int)⟩ ⟨m2, ts⟩ (reachL (movedL os l) [⟨2, (i : Int)⟩]) = 10
   rw [show reachL (movedL os l) [⟨2, (i : Int)⟩] = r from reachL_is hr];unfold transE;rw [if_neg (by rw [show hpB ⟨m, movedL os l⟩ [⟨2, (i : Int)⟩] = true from k1]; simp), if_neg (by simp [hq0]), if_pos hdd]
end Go.Proofs.Ytabcjdalifhpdaa
