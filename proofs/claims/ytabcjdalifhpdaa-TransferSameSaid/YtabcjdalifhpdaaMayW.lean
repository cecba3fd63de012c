/- Plain laws of a heap that may be and whose objects are all alive; references to all its objects, and how a row holds them. No condition. Heaps stay heaps that may be, whatever is done to them, in plain Lean. No condition; no run. Worlds stay worlds that may be, whatever act is done, in plain Lean. No condition; no run. -/
import Derived.Test.YtabcjdalifhpdaaLoc
import Derived.Test.YtabcjdalifhpdaaAlloc
import Derived.Test.YtabcjdalifhpdaaSet
import Derived.Test.YtabcjdalifhpdaaReach
import Derived.Test.YtabcjdalifhpdaaActP
import Derived.Test.YtabcjdalifhpdaaFlowQ
namespace Go.Proofs.Ytabcjdalifhpdaa
section
open Go.RowKit
def refsTo (n : Nat) : List V := (List.range n).map fun (i : Nat) => ⟨2, (i : Int)⟩
def rc (n : Nat) : List (List Value) := (List.range n).map fun (i : Nat) => [.int .i64 2, .int .i64 (i : Int)]
theorem refsTo_len (n : Nat) : (refsTo n).length = n := by simp [refsTo]
theorem rc_len (n : Nat) : (rc n).length = n := by simp [rc]
theorem rc_succ (n : Nat) : (rc (n + 1)).flatten = (rc n).flatten ++ [.int .i64 2, .int .i64 (n : Int)] := by simp [rc, List.range_succ]
theorem refsTo_at {n i : Nat} (h : i < n) : (refsTo n)[i]? = some ⟨2, (i : Int)⟩ := by simp [refsTo, h]
theorem own_refs {w : World} {base n : Nat} {B : Option Addr} {d : Nat} (h : w.ownsRow base 30 2 (.slice B n d) n (rc n).flatten) (hn : n * 16 ≤ 140737488355328) : OwnSl vE w (fun _ => False) base 30 (.slice B n d) (refsTo n) :=
 ⟨rc n, ⟨by rw [rc_len, refsTo_len], fun i x cs hx hc => by
  have hi : i < n := (by have := (List.getElem?_eq_some_iff.1 hx).1; rwa [refsTo_len] at this);rw [refsTo_at hi] at hx;simp [rc, hi] at hc hx
  subst hx hc;exact ⟨rfl, rfl⟩⟩, by rw [refsTo_len]; exact h, by rw [refsTo_len]; exact hn⟩
structure GoodH (m : Int) (os : List Ob) : Prop where
 may : hpB ⟨m, os⟩ [] = true
 alive : ∀ o ∈ os, o.dead = false
theorem valB_mono {n n' : Nat} (h : n ≤ n') {v : V} (hv : valB n v = true) : valB n' v = true := by
 unfold valB at *;rcases (by omega : v.k = 0 ∨ v.k = 1 ∨ v.k = 2 ∨ (v.k ≠ 0 ∧ v.k ≠ 1 ∧ v.k ≠ 2)) with hk | hk | hk | ⟨hk, hk1, hk2⟩ <;> simp_all
 omega
theorem GoodH.nil {m : Int} (h : 0 ≤ m ∧ m ≤ 60) : GoodH m [] := ⟨by simp [hpB, limB, h.1, h.2], by simp⟩
theorem GoodH.lim {m : Int} {os : List Ob} (h : GoodH m os) : (os.length : Int) ≤ m ∧ m ≤ 60 := by
 have := h.may;simp [hpB, limB] at this
 exact ⟨this.1.2, this.1.1.2⟩
theorem GoodH.more {m : Int} {os : List Ob} (h : GoodH m os) {f : Int} (he : allocE ⟨m, os⟩ f = 0) : GoodH m (os ++ [zeroOb f.toNat]) := by
 have hm := h.may;unfold allocE at he;rw [if_neg (by simp [hm])] at he;split at he
 ·cases he
 split at he
 ·cases he
 rename_i hf hl
 have hl' : (os.length : Int) ≠ m := hl;simp [hpB, limB] at hm
 obtain ⟨⟨⟨h1, h2⟩, h3⟩, h4⟩ := hm;have hz : obB (os.length + 1) (zeroOb f.toNat) = true := by
  simp [obB, zeroOb, valB]
  omega
 have ho : ∀ o ∈ os, obB (os.length + 1) o = true := fun o ho => by
  have := h4 o ho;simp [obB] at this ⊢
  exact ⟨⟨this.1.1, fun x hx => valB_mono (by omega) (this.1.2 x hx)⟩, this.2⟩
 constructor
 ·simp [hpB, limB]
  refine ⟨⟨⟨h1, h2⟩, by omega⟩, ho, hz⟩
 ·intro o ho;rcases List.mem_append.1 ho with ho | ho
  ·exact h.alive o ho
  ·simp at ho; subst ho; rfl
theorem GoodH.set {m : Int} {os : List Ob} (h : GoodH m os) {v x : V} {f : Int} (he : setE ⟨m, os⟩ v f x = 0) : GoodH m (setOs os v.n.toNat f.toNat x) := by
 unfold setE at he;split at he
 ·cases he
 rename_i hb
 have hm := h.may;simp [hpB, limB] at hm hb ⊢
 obtain ⟨⟨⟨h1, h2⟩, h3⟩, h4⟩ := hm;have hx : valB os.length x = true := hb.2.2.2.2.2;have hall : ∀ o ∈ setOs os v.n.toNat f.toNat x, obB os.length o = true ∧ o.dead = false := by
  intro o ho;obtain ⟨i, hi⟩ := List.getElem?_of_mem ho;rw [setOs_at] at hi;split at hi
  ·cases hq : os[i]? with
   | none => rw [hq] at hi; cases hi
   | some p =>
    rw [hq] at hi;simp at hi
    subst hi;have hp := List.mem_of_getElem? hq;have hpo := h4 p hp;have hd := h.alive p hp;refine ⟨?_, hd⟩;simp [obB] at hpo ⊢
    refine ⟨⟨hpo.1.1, fun y hy => ?_⟩, hpo.2⟩;rcases List.mem_or_eq_of_mem_set hy with hy | rfl
    ·exact hpo.1.2 y hy
    ·exact hx
  ·have ho := List.mem_of_getElem? hi;exact ⟨h4 o ho, h.alive o ho⟩
 refine ⟨?_, fun o ho => (hall o ho).2⟩;simp [hpB, limB, setOs_len]
 exact ⟨⟨⟨h1, h2⟩, h3⟩, fun o ho => (hall o ho).1⟩
end
section
open Go.RowKit
structure HpOk (h : Hp) : Prop where
 low : 0 ≤ h.most
 high : h.most ≤ 60
 fits : (h.objs.length : Int) ≤ h.most
 objs : ∀ o ∈ h.objs, obB h.objs.length o = true
theorem hpB_iff {h : Hp} {rs : List V} : hpB h rs = true ↔ HpOk h ∧ ∀ v ∈ rs, valB h.objs.length v = true := by
 simp only [hpB, limB, Bool.and_eq_true, decide_eq_true_eq, List.all_eq_true];exact ⟨fun ⟨⟨⟨⟨h1, h2⟩, h3⟩, h4⟩, h5⟩ => ⟨⟨h1, h2, h3, h4⟩, h5⟩, fun ⟨⟨h1, h2, h3, h4⟩, h5⟩ => ⟨⟨⟨⟨h1, h2⟩, h3⟩, h4⟩, h5⟩⟩
theorem HpOk.few {h : Hp} (a : HpOk h) : h.objs.length ≤ 60 := by have := a.high; have := a.fits; omega
theorem HpOk.bare {h : Hp} (a : HpOk h) : hpB h [] = true := hpB_iff.2 ⟨a, fun _ h => by cases h⟩
theorem obB_iff {n : Nat} {o : Ob} : obB n o = true ↔ o.fields.length ≤ 4 ∧ (∀ v ∈ o.fields, valB n v = true) ∧ (o.dead = true ↔ o.fields = []) := by
 have hd : (o.dead != decide (0 < o.fields.length)) = true ↔ (o.dead = true ↔ o.fields = []) := by
  cases o.dead <;> cases ho : o.fields <;> simp
 simp only [obB, Bool.and_eq_true, decide_eq_true_eq, List.all_eq_true, hd, and_assoc]
theorem fieldsOf_mem {os : List Ob} {n : Int} (h : fieldsOf os n ≠ []) : ∃ o ∈ os, os[n.toNat]? = some o ∧ fieldsOf os n = o.fields := by
 unfold fieldsOf at h ⊢
 cases hx : os[n.toNat]? with
 | none => rw [hx] at h; exact absurd rfl h
 | some o => exact ⟨o, List.mem_of_getElem? hx, rfl, rfl⟩
theorem fieldsOf_some {os : List Ob} {n : Nat} {o : Ob} (h : os[n]? = some o) : fieldsOf os (n : Int) = o.fields := by
 unfold fieldsOf;rw [Int.toNat_natCast, h]
theorem deadAt_some {os : List Ob} {n : Nat} {o : Ob} (h : os[n]? = some o) : deadAt os (n : Int) = o.dead := by
 unfold deadAt;rw [Int.toNat_natCast, h]
theorem HpOk.field {h : Hp} (a : HpOk h) {n : Int} {v : V} (hv : v ∈ fieldsOf h.objs n) : valB h.objs.length v = true := by
 obtain ⟨o, ho, _, e⟩ := fieldsOf_mem (List.ne_nil_of_mem hv);rw [e] at hv;exact (obB_iff.1 (a.objs o ho)).2.1 v hv
theorem HpOk.led {h : Hp} {rs : List V} (hp : hpB h rs = true) : ∃ l, Led h.objs rs [] l ∧ Told h.objs.length l := by
 have hok := hpB_refs (m := h.most) (os := h.objs) hp;exact led_ex hok.fields h.objs.length rs [] .nil hok.roots (by simp)
theorem valB_ref' {n : Nat} {v : V} (h : valB n v = true) (hk : v.k = 2) : 0 ≤ v.n ∧ v.n < n := by
 unfold valB at h;simp [hk] at h
 exact h
theorem valB_newV {n m : Nat} {f : Int → Int} {v : V} (h : valB n v = true) (hf : v.k = 2 → 0 ≤ f v.n ∧ f v.n < m) : valB m (newV f v) = true := by
 unfold newV;by_cases hk : v.k = 2
 ·have := hf hk;rw [if_pos hk];simp [valB, this.1, this.2]
 ·rw [if_neg hk];unfold valB at h ⊢;by_cases h0 : v.k = 0
  ·simpa [h0] using h
  ·by_cases h1 : v.k = 1
   ·simpa [h1] using h
   ·simp [h0, h1, hk] at h
theorem plM_lt {n : Nat} {l : List Int} {x : Int} (h : x ∈ l) : (n : Int) ≤ plM n l x ∧ plM n l x < (n + l.length : Nat) := by
 unfold plM;rw [if_pos h];have := List.idxOf_lt_length_of_mem h;omega
theorem keepL_full {n : Nat} {l : List Int} (h : Told n l) : (keepL n l).length = l.length := by
 have := sort_keep h;rw [← this, List.length_mergeSort]
theorem coll_ok {h : Hp} {rs : List V} (hp : hpB h rs = true) {l : List Int} (hl : Led h.objs rs [] l) (ht : Told h.objs.length l) : hpB (collH h rs l) (collV h rs l) = true := by
 obtain ⟨a, hr⟩ := hpB_iff.1 hp;have hK : (keepL h.objs.length l).length = l.length := keepL_full ht;have hlen := ht.len;have hin : ∀ x, x ∈ l → x ∈ keepL h.objs.length l := fun x hx => keepL_mem.2 ⟨hx, ht.within x hx⟩;unfold collH collV;rw [if_neg (by simp [hp]), if_neg (by simp [hp])];refine hpB_iff.2 ⟨⟨a.low, a.high, ?_, fun o ho => ?_⟩, fun v hv => ?_⟩
 ·have := a.fits;simp
  omega
 ·obtain ⟨x, hx, rfl⟩ := List.mem_map.1 ho;have hx' := keepL_mem.1 hx;simp only [List.length_map];obtain ⟨n, rfl⟩ := Int.eq_ofNat_of_zero_le hx'.2.1;have hn : n < h.objs.length := (by omega);have hg : h.objs[n]? = some h.objs[n] := List.getElem?_eq_getElem hn;have hob := obB_iff.1 (a.objs _ (List.getElem_mem hn));refine obB_iff.2 ?_;simp only [keptO, fieldsOf_some hg, deadAt_some hg, List.length_map, List.mem_map, List.map_eq_nil_iff];refine ⟨hob.1, ?_, hob.2.2⟩;rintro v ⟨u, hu, rfl⟩;refine valB_newV (hob.2.1 u hu) (fun hk => ?_);have hm := hl.shut n hx'.1 u (by rw [fieldsOf_some hg]; exact hu) hk;have := plM_lt (n := 0) (hin _ hm);omega
 ·obtain ⟨u, hu, rfl⟩ := List.mem_map.1 hv;simp only [List.length_map];refine valB_newV (hr u hu) (fun hk => ?_);have := plM_lt (n := 0) (hin _ (hl.roots u hu hk));omega
theorem collV_len {h : Hp} {rs : List V} (hp : hpB h rs = true) (l : List Int) : (collV h rs l).length = rs.length := by
 unfold collV;rw [if_neg (by simp [hp]), List.length_map]
theorem obB_mono {n n' : Nat} (h : n ≤ n') {o : Ob} (ho : obB n o = true) : obB n' o = true := by
 obtain ⟨h1, h2, h3⟩ := obB_iff.1 ho;exact obB_iff.2 ⟨h1, fun v hv => valB_mono h (h2 v hv), h3⟩
theorem alloc_ok {h : Hp} {rs : List V} {f : Int} (hp : hpB h rs = true) (he : allocE h f = 0) : hpB (allocH h f) (rs ++ [allocV h f]) = true ∧ 1 ≤ f ∧ f ≤ 4 ∧ allocH h f = ⟨h.most, h.objs ++ [zeroOb f.toNat]⟩ ∧ allocV h f = ⟨2, h.objs.length⟩ := by
 obtain ⟨a, hr⟩ := hpB_iff.1 hp;have e1 : allocH h f = ⟨h.most, h.objs ++ [zeroOb f.toNat]⟩ := if_pos he;have e2 : allocV h f = ⟨2, h.objs.length⟩ := if_pos he;have hf : (1 ≤ f ∧ f ≤ 4) ∧ (h.objs.length : Int) ≠ h.most := by
  unfold allocE at he;split at he
  ·cases he
  split at he
  ·cases he
  split at he
  ·cases he
  exact ⟨by omega, by assumption⟩
 refine ⟨?_, hf.1.1, hf.1.2, e1, e2⟩;rw [e1, e2];refine hpB_iff.2 ⟨⟨a.low, a.high, ?_, fun o ho => ?_⟩, fun v hv => ?_⟩
 ·have := a.fits;simp
  omega
 ·simp only [List.length_append, List.length_singleton];rcases List.mem_append.1 ho with ho | ho
  ·exact obB_mono (by omega) (a.objs o ho)
  ·simp at ho
   subst ho;refine obB_iff.2 ⟨by simp [zeroOb]; omega, fun v hv => ?_, ?_⟩
   ·simp [zeroOb] at hv
    rw [hv.2];rfl
   ·simp [zeroOb]
    omega
 ·simp only [List.length_append, List.length_singleton];rcases List.mem_append.1 hv with hv | hv
  ·exact valB_mono (by omega) (hr v hv)
  ·simp at hv
   subst hv;simp [valB]
   omega
theorem objectE_zero {os : List Ob} {v : V} {f : Int} (hv : valB os.length v = true) (he : objectE os v f = 0) : ∃ (n : Nat) (o : Ob) (j : Nat), v = ⟨2, n⟩ ∧ os[n]? = some o ∧ o.dead = false ∧ f = j ∧ j < o.fields.length := by
 unfold objectE at he;by_cases hk : v.k = 2
 ·have hin := valB_ref' hv hk;obtain ⟨k, m⟩ := v;dsimp only at hk hin he;subst hk;obtain ⟨n, rfl⟩ := Int.eq_ofNat_of_zero_le hin.1;have hn : n < os.length := (by omega);have hg : os[n]? = some os[n] := List.getElem?_eq_getElem hn;simp [hg] at he
  cases hd : os[n].dead
  ·simp [hd] at he
   obtain ⟨j, rfl⟩ := Int.eq_ofNat_of_zero_le he.1;exact ⟨n, os[n], j, rfl, hg, hd, rfl, by omega⟩
  ·simp [hd] at he
 ·simp [hk] at he
theorem set_ok {h : Hp} {rs : List V} {v x : V} {f : Int} (hp : hpB h rs = true) (he : setE h v f x = 0) : hpB (setH h v f x) rs = true ∧ setH h v f x = ⟨h.most, setOs h.objs v.n.toNat f.toNat x⟩ := by
 obtain ⟨a, hr⟩ := hpB_iff.1 hp;have e1 : setH h v f x = ⟨h.most, setOs h.objs v.n.toNat f.toNat x⟩ := if_pos he;refine ⟨?_, e1⟩;rw [e1];have hvx : hpB h [v, x] = true := by
  unfold setE at he;split at he
  ·cases he
  ·rename_i hb; simpa using hb
 have hx := (hpB_iff.1 hvx).2 x (by simp);refine hpB_iff.2 ⟨⟨a.low, a.high, by simpa [setOs_len] using a.fits, fun o ho => ?_⟩, fun u hu => by rw [setOs_len]; exact hr u hu⟩;simp only [setOs_len];obtain ⟨i, hi⟩ := List.getElem?_of_mem ho;rw [setOs_at] at hi;split at hi
 ·cases hg : h.objs[i]? with
  | none => rw [hg] at hi; cases hi
  | some p =>
   rw [hg] at hi;injection hi with hi
   subst hi;obtain ⟨h1, h2, h3⟩ := obB_iff.1 (a.objs p (List.mem_of_getElem? hg));refine obB_iff.2 ⟨by simpa using h1, fun u hu => ?_, ?_⟩
   ·rcases List.mem_or_eq_of_mem_set hu with h' | rfl
    ·exact h2 u h'
    ·exact hx
   ·rw [h3];simp [List.set_eq_nil_iff]
 ·exact a.objs o (List.mem_of_getElem? hi)
theorem trans_ok {fr tt : Hp} {rs ts : List V} {v : V} {l : List Int} {move : Bool} (hp : hpB fr rs = true) (hq : hpB tt ts = true) (hl : Led fr.objs [v] [] l) (ht : Told fr.objs.length l) (he : transE fr v tt l = 0) :
  hpB (transFrom fr v tt l move) rs = true ∧ hpB (transTo fr v tt l) (ts ++ [transV fr v tt l]) = true := by
 obtain ⟨a, hr⟩ := hpB_iff.1 hp;obtain ⟨b, hs⟩ := hpB_iff.1 hq;have e1 : transFrom fr v tt l move = ⟨fr.most, movedL fr.objs (if move then l else [])⟩ := if_pos he;have e2 : transTo fr v tt l = ⟨tt.most, partC fr.objs tt.objs l l.length⟩ := if_pos he;have e3 : transV fr v tt l = newV (plM tt.objs.length l) v := if_pos he;have hfit : hpB fr [v] = true ∧ (tt.objs.length : Int) + l.length ≤ tt.most := by
  unfold transE at he;split at he
  ·cases he
  rename_i h1
  split at he
  ·cases he
  split at he
  ·cases he
  split at he
  ·cases he
  exact ⟨by simpa using h1, by omega⟩
 have hv := (hpB_iff.1 hfit.1).2 v (by simp);rw [e1, e2, e3];refine ⟨hpB_iff.2 ⟨⟨a.low, a.high, by simpa [movedL_len] using a.fits, fun o ho => ?_⟩, fun u hu => by simp only [movedL_len]; exact hr u hu⟩, ?_⟩
 ·simp only [movedL_len];obtain ⟨i, hi⟩ := List.getElem?_of_mem ho;simp only [movedL, List.getElem?_mapIdx] at hi
  cases hg : fr.objs[i]? with
  | none => rw [hg] at hi; cases hi
  | some p =>
   rw [hg] at hi;injection hi with hi
   subst hi;show obB fr.objs.length (if (i : Int) ∈ (if move = true then l else []) then ⟨[], true⟩ else p) = true
   by_cases hm : (i : Int) ∈ (if move = true then l else [])
   ·rw [if_pos hm]; rfl
   ·rw [if_neg hm]; exact a.objs p (List.mem_of_getElem? hg)
 ·rw [partC_all];refine hpB_iff.2 ⟨⟨b.low, b.high, by simpa using hfit.2, fun o ho => ?_⟩, fun u hu => ?_⟩
  ·simp only [List.length_append, List.length_map];rcases List.mem_append.1 ho with ho | ho
   ·exact obB_mono (by omega) (b.objs o ho)
   ·obtain ⟨x, hx, rfl⟩ := List.mem_map.1 ho;have hx' := ht.within x hx;obtain ⟨n, rfl⟩ := Int.eq_ofNat_of_zero_le hx'.1;have hn : n < fr.objs.length := (by omega);have hg : fr.objs[n]? = some fr.objs[n] := List.getElem?_eq_getElem hn;obtain ⟨h1, h2, h3⟩ := obB_iff.1 (a.objs _ (List.getElem_mem hn));have hd : (fr.objs[n]).dead = false := by
     have hany : l.any (deadAt fr.objs) = false := by
      unfold transE at he;split at he
      ·cases he
      split at he
      ·cases he
      split at he
      ·cases he
      rename_i h3
      simpa using h3
     have := List.any_eq_false.1 hany _ hx;rw [deadAt_some hg] at this;simpa using this
    refine obB_iff.2 ?_;simp only [fieldsOf_some hg, List.length_map, List.mem_map, List.map_eq_nil_iff];refine ⟨h1, ?_, ?_⟩
    ·rintro u ⟨y, hy, rfl⟩;refine valB_newV (h2 y hy) (fun hk => ?_);have hm := hl.shut n hx y (by rw [fieldsOf_some hg]; exact hy) hk;have := plM_lt (n := tt.objs.length) hm;omega
    ·rw [← h3, hd]
  ·simp only [List.length_append, List.length_map];rcases List.mem_append.1 hu with hu | hu
   ·exact valB_mono (by omega) (hs u hu)
   ·simp at hu
    subst hu;refine valB_newV hv (fun hk => ?_);have := plM_lt (n := tt.objs.length) (hl.roots v (by simp) hk);omega
end
section
open Go.RowKit
structure AcOk (ps : List (List Ins)) (n : Int) (a : Ac) : Prop where
 kind0 : 0 ≤ a.kind
 kind1 : a.kind < ps.length
 par0 : -1 ≤ a.parent
 par1 : a.parent < n
 fin0 : 0 ≤ a.fin
 fin1 : a.fin ≤ 8
 regs : a.regs.length = 8
 box : a.box.length ≤ 6
 heap : hpB a.heap (a.regs ++ a.box) = true
 pc0 : -1 ≤ a.pc
 pc1 : a.pc < ((ps.getD a.kind.toNat []).length : Int)
 refs : ∀ v ∈ a.box, v.k = 2
 gone : a.fin = 0 ∨ (a.box = [] ∧ a.heap.objs = [] ∧ a.pc = -1)
theorem acB_iff {ps : List (List Ins)} {n : Int} {a : Ac} : acB ps n a = true ↔ AcOk ps n a := by
 have hg : (a.fin == 0 || (decide (a.box.length = 0) && decide (a.heap.objs.length = 0) && a.pc == -1)) = true ↔ (a.fin = 0 ∨ (a.box = [] ∧ a.heap.objs = [] ∧ a.pc = -1)) := by
  simp [and_assoc]
 have hb : (a.box.all (fun v => v.k == 2)) = true ↔ ∀ v ∈ a.box, v.k = 2 := (by simp);unfold acB;rw [Bool.and_eq_true, Bool.and_eq_true, hg, hb];simp only [Bool.and_eq_true, decide_eq_true_eq, rootsA, and_assoc];exact ⟨fun ⟨h1, h2, h3, h4, h5, h6, h7, h8, h9, h10, h11, h12, h13⟩ => ⟨h1, h2, h3, h4, h5, h6, h7, h8, h9, h10, h11, h12, h13⟩,
  fun ⟨h1, h2, h3, h4, h5, h6, h7, h8, h9, h10, h11, h12, h13⟩ => ⟨h1, h2, h3, h4, h5, h6, h7, h8, h9, h10, h11, h12, h13⟩⟩
structure WdOk (ps : List (List Ins)) (W : Wd) : Prop where
 one : 1 ≤ W.actors.length
 few : W.actors.length ≤ 8
 told : W.prints.length ≤ 500
 acs : ∀ (i : Nat) (a : Ac), W.actors[i]? = some a → AcOk ps i a
 tds : ∀ t ∈ W.prints, tdB W.actors.length t = true
theorem getD_some {α : Type} {l : List α} {i : Nat} {x d : α} (h : l[i]? = some x) : l.getD i d = x := by simp [List.getD, h]
theorem wdB_iff {ps : List (List Ins)} {W : Wd} : wdB ps W = true ↔ WdOk ps W := by
 unfold wdB;simp only [Bool.and_eq_true, decide_eq_true_eq, List.all_eq_true, List.mem_range];refine ⟨fun ⟨⟨⟨⟨h1, h2⟩, h3⟩, h4⟩, h5⟩ => ⟨h1, h2, h3, fun i a ha => ?_, h5⟩, fun ⟨h1, h2, h3, h4, h5⟩ => ⟨⟨⟨⟨h1, h2⟩, h3⟩, fun i hi => ?_⟩, h5⟩⟩
 ·have := h4 i (List.getElem?_eq_some_iff.1 ha).1;rw [getD_some ha] at this;exact acB_iff.1 this
 ·have hg : W.actors[i]? = some W.actors[i] := List.getElem?_eq_getElem hi;rw [getD_some hg];exact acB_iff.2 (h4 i _ hg)
section
variable {ps : List (List Ins)} {W : Wd} {n : Int} {a : Ac}
theorem AcOk.hp (h : AcOk ps n a) : HpOk a.heap := (hpB_iff.1 h.heap).1
theorem AcOk.vals (h : AcOk ps n a) : ∀ v ∈ a.regs ++ a.box, valB a.heap.objs.length v = true := (hpB_iff.1 h.heap).2
theorem nil_val (n : Nat) : valB n nilV = true := rfl
theorem word_val {n : Nat} {x : Int} (h : wordB x = true) : valB n ⟨1, x⟩ = true := by simpa [valB] using h
theorem AcOk.reg (h : AcOk ps n a) (r : Int) : valB a.heap.objs.length (a.reg r) = true := by
 unfold Ac.reg;by_cases hr : r.toNat < a.regs.length
 ·rw [List.getD, List.getElem?_eq_getElem hr];exact h.vals _ (List.mem_append_left _ (List.getElem_mem hr))
 ·rw [List.getD, List.getElem?_eq_none (by omega)];rfl
theorem AcOk.setReg (h : AcOk ps n a) (r : Int) {v : V} (hv : valB a.heap.objs.length v = true) : AcOk ps n (a.setReg r v) :=
 { h with
  regs := by simp [Ac.setReg, h.regs]
  heap := hpB_iff.2 ⟨h.hp, fun x hx => by
   rcases List.mem_append.1 hx with hx | hx
   ·rcases List.mem_or_eq_of_mem_set hx with hx | rfl
    ·exact h.vals x (List.mem_append_left _ hx)
    ·exact hv
   ·exact h.vals x (List.mem_append_right _ hx)⟩ }
theorem AcOk.setPc (h : AcOk ps n a) {x : Int} (h0 : -1 ≤ x) (h1 : x < ((ps.getD a.kind.toNat []).length : Int)) (hf : a.fin = 0) : AcOk ps n (a.setPc x) :=
 { h with pc0 := h0, pc1 := h1, gone := .inl hf }
theorem AcOk.setHeap (h : AcOk ps n a) {g : Hp} (hg : hpB g (a.regs ++ a.box) = true) (hf : a.fin = 0) : AcOk ps n (a.setHeap g) := { h with heap := hg, gone := .inl hf }
theorem AcOk.setBox (h : AcOk ps n a) {l : List V} (hl : l.length ≤ 6) (hr : ∀ v ∈ l, v.k = 2) (hv : ∀ v ∈ l, valB a.heap.objs.length v = true) (hf : a.fin = 0) : AcOk ps n (a.setBox l) :=
 { h with
  box := hl
  refs := hr
  gone := .inl hf
  heap := hpB_iff.2 ⟨h.hp, fun x hx => by
   rcases List.mem_append.1 hx with hx | hx
   ·exact h.vals x (List.mem_append_left _ hx)
   ·exact hv x hx⟩ }
theorem newV_kk {f : Int → Int} (v : V) : (newV f v).k = v.k := by
 unfold newV;split
 ·rename_i h; exact h.symm
 ·rfl
theorem keepL_none {l : List Int} : keepL 0 l = [] := rfl
theorem clear_eq (h : AcOk ps n a) {l : List Int} (hl : Led a.heap.objs (rootsA a) [] l) : clearA a = { a with heap := collH a.heap (rootsA a) l, regs := (collV a.heap (rootsA a) l).take 8, box := (collV a.heap (rootsA a) l).drop 8 } := by
 unfold clearA;rw [if_neg (by simp [rootsA, h.heap]), reachL_is hl]
theorem AcOk.clear (h : AcOk ps n a) : AcOk ps n (clearA a) := by
 obtain ⟨l, hl, ht⟩ := HpOk.led h.heap;have hc := coll_ok h.heap hl ht;have hlen := collV_len h.heap l;have hn : ¬ hpB a.heap (a.regs ++ a.box) = false := (by simp [h.heap]);rw [clear_eq h hl];have h8 : (a.regs ++ a.box).length = 8 + a.box.length := (by simp [h.regs]);have hv : collV a.heap (a.regs ++ a.box) l = (a.regs ++ a.box).map (newV (plM 0 (keepL a.heap.objs.length l))) := if_neg hn;refine { h with regs := ?_, box := ?_, heap := ?_, refs := ?_, gone := ?_ }
 ·show ((collV a.heap (a.regs ++ a.box) l).take 8).length = 8
  rw [List.length_take, hlen, h8]; omega
 ·show ((collV a.heap (a.regs ++ a.box) l).drop 8).length ≤ 6
  rw [List.length_drop, hlen, h8]; have := h.box; omega
 ·show hpB (collH a.heap (a.regs ++ a.box) l) ((collV a.heap (a.regs ++ a.box) l).take 8 ++ (collV a.heap (a.regs ++ a.box) l).drop 8) = true
  rw [List.take_append_drop];exact hc
 ·intro v hv';replace hv' : v ∈ (collV a.heap (a.regs ++ a.box) l).drop 8 := hv';rw [hv, ← List.map_drop, List.drop_append, h.regs, Nat.sub_self, List.drop_zero, List.drop_of_length_le (by rw [h.regs]; omega), List.nil_append] at hv';obtain ⟨u, hu, rfl⟩ := List.mem_map.1 hv';rw [newV_kk];exact h.refs u hu
 ·rcases h.gone with hg | ⟨g1, g2, g3⟩
  ·exact .inl hg
  ·refine .inr ⟨?_, ?_, g3⟩
   ·show (collV a.heap (a.regs ++ a.box) l).drop 8 = []
    apply List.eq_nil_of_length_eq_zero
    rw [List.length_drop, hlen, h8, g1]; simp
   ·show (collH a.heap (a.regs ++ a.box) l).objs = []
    unfold collH;rw [if_neg hn, g2];rfl
theorem clear_same (a : Ac) : (clearA a).kind = a.kind ∧ (clearA a).parent = a.parent ∧ (clearA a).pc = a.pc ∧ (clearA a).fin = a.fin := by
 unfold clearA;split <;> exact ⟨rfl, rfl, rfl, rfl⟩
theorem AcOk.clear_most (h : AcOk ps n a) : (clearA a).heap.most = a.heap.most := by
 obtain ⟨l, hl, ht⟩ := HpOk.led h.heap;rw [clear_eq h hl];show (collH a.heap (a.regs ++ a.box) l).most = _
 unfold collH;rw [if_neg (by simp [h.heap])]
theorem AcOk.clear_box (h : AcOk ps n a) : (clearA a).box.length = a.box.length := by
 obtain ⟨l, hl, ht⟩ := HpOk.led h.heap;rw [clear_eq h hl];show ((collV a.heap (a.regs ++ a.box) l).drop 8).length = _
 rw [List.length_drop, collV_len h.heap]; simp [h.regs]
theorem AcOk.ready (h : AcOk ps n a) (f : Int) : AcOk ps n (readyA a f) := by
 unfold readyA;split
 ·exact h.clear
 ·exact h
theorem ready_same (a : Ac) (f : Int) : (readyA a f).kind = a.kind ∧ (readyA a f).parent = a.parent ∧ (readyA a f).pc = a.pc ∧ (readyA a f).fin = a.fin := by
 unfold readyA;split
 ·exact clear_same a
 ·exact ⟨rfl, rfl, rfl, rfl⟩
theorem AcOk.ready_box (h : AcOk ps n a) (f : Int) : (readyA a f).box.length = a.box.length := by
 unfold readyA;split
 ·exact h.clear_box
 ·rfl
theorem AcOk.given (h : AcOk ps n a) (hf : a.fin = 0) (f : Int) : AcOk ps n (givenA a f) ∧ (givenE a f = 0 → valB (givenA a f).heap.objs.length (givenV a f) = true ∧ (givenV a f).k = 2) ∧ (givenA a f).fin = 0 ∧ (givenA a f).kind = a.kind ∧ (givenA a f).pc = a.pc ∧ (givenA a f).parent = a.parent ∧ (givenA a f).box.length = a.box.length := by
 have hr := h.ready f;obtain ⟨s1, s2, s3, s4⟩ := ready_same a f;have hb := h.ready_box f;unfold givenA;split
 ·rename_i he
  obtain ⟨g1, g2, g3, g4, g5⟩ := alloc_ok hr.heap he;have g6 := hpB_iff.1 g1;refine ⟨hr.setHeap (hpB_iff.2 ⟨g6.1, fun v hv => g6.2 v (List.mem_append_left _ hv)⟩) (s4.trans hf), fun _ => ⟨g6.2 _ (by simp [givenV]), ?_⟩, s4.trans hf, s1, s3, s2, hb⟩;show (allocV (readyA a f).heap f).k = 2
  rw [g5]
 ·rename_i he
  exact ⟨hr, fun e => absurd e he, s4.trans hf, s1, s3, s2, hb⟩
theorem objectE_new {f : Int} (h1 : 1 ≤ f) (os : List Ob) (j : Int) (hj : 0 ≤ j) (hjf : j < f) : objectE (os ++ [zeroOb f.toNat]) ⟨2, os.length⟩ j = 0 := by
 unfold objectE;simp [zeroOb]
 omega
theorem setOs_fields {os : List Ob} {i j : Nat} {x v : V} {f : Int} (h : objectE os v f = 0) : objectE (setOs os i j x) v f = 0 := by
 unfold objectE at h ⊢;by_cases hk : v.k = 2
 ·rw [if_pos hk] at h ⊢;rw [setOs_at]
  cases hg : os[v.n.toNat]? with
  | none => rw [hg] at h; cases h
  | some o =>
   rw [hg] at h;by_cases hi : i = v.n.toNat
   ·rw [if_pos hi]; simpa using h
   ·rw [if_neg hi]; exact h
 ·rw [if_neg hk] at h; cases h
theorem two_ok {h : Hp} {rs : List V} {x y : Int} (hp : hpB h rs = true) (he : allocE h 2 = 0) (hx : wordB x = true) (hy : wordB y = true) :
  hpB (twoH (allocH h 2) (allocV h 2) x y) (rs ++ [allocV h 2]) = true ∧ twoH (allocH h 2) (allocV h 2) x y = ⟨h.most, h.objs ++ [⟨[⟨1, x⟩, ⟨1, y⟩], false⟩]⟩ := by
 obtain ⟨g1, g2, g3, g4, g5⟩ := alloc_ok hp he;obtain ⟨k1, k2⟩ := hpB_iff.1 g1;have hvv := k2 (allocV h 2) (by simp);have e1 : setE (allocH h 2) (allocV h 2) 0 ⟨1, x⟩ = 0 := by
  unfold setE;rw [if_neg (by rw [Bool.not_eq_false]; exact hpB_iff.2 ⟨k1, fun v hv => by simp at hv; rcases hv with rfl | rfl; exact hvv; exact word_val hx⟩), g4, g5];exact objectE_new (by omega) _ _ (by omega) (by omega)
 obtain ⟨s1, s2⟩ := set_ok g1 e1;obtain ⟨m1, m2⟩ := hpB_iff.1 s1;have hvv2 := m2 (allocV h 2) (by simp);have e2 : setE (setH (allocH h 2) (allocV h 2) 0 ⟨1, x⟩) (allocV h 2) 1 ⟨1, y⟩ = 0 := by
  unfold setE;rw [if_neg (by rw [Bool.not_eq_false]; exact hpB_iff.2 ⟨m1, fun v hv => by simp at hv; rcases hv with rfl | rfl; exact hvv2; exact word_val hy⟩), s2];refine setOs_fields ?_;rw [g4, g5];exact objectE_new (by omega) _ _ (by omega) (by omega)
 obtain ⟨t1, t2⟩ := set_ok s1 e2;refine ⟨t1, ?_⟩;show setH (setH (allocH h 2) (allocV h 2) 0 ⟨1, x⟩) (allocV h 2) 1 ⟨1, y⟩ = _
 rw [t2, s2, g4, g5];simp only [Hp.mk.injEq, true_and];apply List.ext_getElem?
 intro i;rw [setOs_at, setOs_at];show (if (((h.objs.length : Nat) : Int).toNat) = i then _ else _) = _
 rw [Int.toNat_natCast];by_cases hi : h.objs.length = i
 ·subst hi;simp [zeroOb, List.replicate]
 ·rw [if_neg hi, if_neg hi];rcases Nat.lt_or_gt_of_ne hi with hlt | hgt
  ·rw [List.getElem?_eq_none (by simp; omega), List.getElem?_eq_none (by simp; omega)]
  ·rw [List.getElem?_append_left hgt, List.getElem?_append_left hgt]
theorem AcOk.tell (h : AcOk ps n a) (hf : a.fin = 0) (hb : a.box.length ≠ 6) {x y : Int} (hx : wordB x = true) (hy : wordB y = true) : AcOk ps n (tellA a x y) ∧ (tellA a x y).fin = 0 := by
 obtain ⟨g1, g2, g3, g4, g5, g6, g7⟩ := h.given hf 2;unfold tellA;split
 ·rename_i he
  have he' : allocE (readyA a 2).heap 2 = 0 := he;have hr := h.ready 2;obtain ⟨t1, t2⟩ := two_ok hr.heap he' hx hy;obtain ⟨v1, v2⟩ := hpB_iff.1 t1;have eA : givenA a 2 = (readyA a 2).setHeap (allocH (readyA a 2).heap 2) := if_pos he;have hfr : (readyA a 2).fin = 0 := (ready_same a 2).2.2.2.trans hf;have hbx : (readyA a 2).box.length ≤ 5 := (by have := h.ready_box 2; have := h.box; omega);rw [eA];show AcOk ps n (((readyA a 2).setHeap (twoH (allocH (readyA a 2).heap 2) (allocV (readyA a 2).heap 2) x y)).setBox ((readyA a 2).box ++ [allocV (readyA a 2).heap 2])) ∧ _
  refine ⟨(hr.setHeap (hpB_iff.2 ⟨v1, fun v hv => v2 v (List.mem_append_left _ hv)⟩) hfr).setBox (by simp; omega) (fun v hv => ?_) (fun v hv => ?_) hfr, hfr⟩
  ·rcases List.mem_append.1 hv with hv | hv
   ·exact hr.refs v hv
   ·simp at hv
    subst hv;exact (g2 he).2
  ·show valB (twoH (allocH (readyA a 2).heap 2) (allocV (readyA a 2).heap 2) x y).objs.length v = true
   rcases List.mem_append.1 hv with hv | hv
   ·exact v2 v (List.mem_append_left _ (List.mem_append_right _ hv))
   ·exact v2 v (List.mem_append_right _ hv)
 ·exact ⟨g1, g3⟩
theorem AcOk.goneA (h : AcOk ps n a) {how : Int} (h0 : 0 ≤ how) (h8 : how ≤ 8) : AcOk ps n (goneA a how) where
 kind0 := h.kind0
 kind1 := h.kind1
 par0 := h.par0
 par1 := h.par1
 fin0 := h0
 fin1 := h8
 regs := rfl
 box := Nat.zero_le _
 heap := hpB_iff.2 ⟨⟨h.hp.low, h.hp.high, h.hp.low, fun o ho => by cases ho⟩, fun v hv => by
  simp [Go.Proofs.Ytabcjdalifhpdaa.goneA] at hv
  rw [hv]; rfl⟩
 pc0 := by show (-1 : Int) ≤ -1; omega
 pc1 := by show (-1 : Int) < _; omega
 refs := fun v hv => by cases hv
 gone := .inr ⟨rfl, rfl, rfl⟩
theorem AcOk.mono (h : AcOk ps n a) {m : Int} (hm : n ≤ m) : AcOk ps m a := { h with par1 := by have := h.par1; omega }
theorem tdB_mono {n m : Nat} {t : Td} (h : tdB n t = true) (hm : n ≤ m) : tdB m t = true := by
 simp [tdB] at h ⊢
 omega
theorem WdOk.put (h : WdOk ps W) {i : Nat} {b : Ac} (hb : i < W.actors.length → AcOk ps i b) : WdOk ps (W.put i b) := by
 refine ⟨by simp only [Wd.put, List.length_set]; exact h.one, by simp only [Wd.put, List.length_set]; exact h.few, h.told, fun j x hx => ?_, fun t ht => by simp only [Wd.put, List.length_set]; exact h.tds t ht⟩;replace hx : (W.actors.set i b)[j]? = some x := hx;rw [List.getElem?_set] at hx;by_cases hij : i = j
 ·subst hij;by_cases hl : i < W.actors.length
  ·simp [hl] at hx; subst hx; exact hb hl
  ·simp [hl] at hx
 ·rw [if_neg hij] at hx;exact h.acs j x hx
theorem WdOk.at_ (h : WdOk ps W) {i : Nat} (hi : i < W.actors.length) : AcOk ps i (W.at_ i) := by
 have hg : W.actors[i]? = some W.actors[i] := List.getElem?_eq_getElem hi;rw [Wd.at_, getD_some hg];exact h.acs i _ hg
theorem lives_lt {i : Int} (h : livesB W i = true) : 0 ≤ i ∧ i.toNat < W.actors.length ∧ (W.at_ i.toNat).fin = 0 := by
 simp [livesB] at h
 exact ⟨h.1.1, by omega, h.2⟩
theorem WdOk.tell (h : WdOk ps W) {i x y : Int} (hx : wordB x = true) (hy : wordB y = true) : WdOk ps (tellW W i x y) := by
 unfold tellW;split
 ·rename_i ho
  simp only [openB, Bool.and_eq_true] at ho;obtain ⟨h1, h2, h3⟩ := lives_lt ho.1;exact h.put (fun hl => ((h.at_ hl).tell h3 (by simpa using ho.2) hx hy).1)
 ·exact h
theorem word_small {x : Int} (h0 : -10 ≤ x) (h1 : x ≤ 1000) : wordB x = true := by simp [wordB]; omega
theorem WdOk.end_ (h : WdOk ps W) {i : Nat} (hi : i < W.actors.length) {how : Int} (h0 : 0 ≤ how) (h8 : how ≤ 8) : WdOk ps (endW W i how) :=
 (h.put (fun hl => (h.at_ hl).goneA h0 h8)).tell (word_small (by omega) (by have := h.few; omega)) (word_small (by omega) (by omega))
theorem spoilt_no {h : Hp} {v : V} (hs : spoilt h v = false) : hpB h [v] = true ∧ (reachL h.objs [v]).any (deadAt h.objs) = false := by
 simp only [spoilt, Bool.or_eq_false_iff, beq_eq_false_iff_ne, ne_eq, Bool.not_eq_false] at hs;exact hs
theorem led_of {h : Hp} {v : V} (hp : hpB h [v] = true) : ∃ l, reachL h.objs [v] = l ∧ Led h.objs [v] [] l ∧ Told h.objs.length l := by
 obtain ⟨l, hl, ht⟩ := HpOk.led hp;exact ⟨l, reachL_is hl, hl, ht⟩
theorem at_put {i j : Nat} {b : Ac} : (W.put i b).at_ j = if j = i ∧ i < W.actors.length then b else W.at_ j := by
 unfold Wd.at_ Wd.put;simp only [List.getD, List.getElem?_set];by_cases h : i = j
 ·subst h;by_cases hl : i < W.actors.length
  ·simp [hl]
  ·simp [hl]
 ·rw [if_neg h, if_neg (fun e => h e.1.symm)]
theorem len_put {i : Nat} {b : Ac} : (W.put i b).actors.length = W.actors.length := by simp [Wd.put]
end
end
end Go.Proofs.Ytabcjdalifhpdaa
