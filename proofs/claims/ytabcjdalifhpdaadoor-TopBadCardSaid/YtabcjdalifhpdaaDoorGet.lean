/- The walk of the document's answer to heap.Check: it computes the plain function of SpecH, too. No condition beside what is read. The walks of heap.object, heap.Get and of the document's answers to them. No condition beside what is read. The walk of heap.Get. No condition beside what is read. A field of an object is set in a heap whose rows lie apart. No condition. -/
import Derived.Test.YtabcjdalifhpdaaDoorHeapB
import Derived.Test.YtabcjdalifhpdaaDoorOwn
import Derived.Test.YtabcjdalifhpdaaDoorLoc
namespace Go.Proofs.YtabcjdalifhpdaaDoor
section
open Go.RowKit
theorem in_is (n l h : Int) (b : Bool) (hb : Hid ((decide (l ≤ n) && decide (n ≤ h)) = b)) (w : World) :
  Calls Tryd.prog 72 #[.int .i64 n, .int .i64 l, .int .i64 h] w fun e w' => e = .returned (.bool b) ∧ w = w' :=
 (in_any n l h w).mono fun _ _ ⟨he, h⟩ => ⟨by rw [he, hb.out], h⟩
set_option maxHeartbeats 400000 in
theorem valueMay_any (n : Nat) (hn : n ≤ 9223372036854775807) (x : V) (w : World) :
  Calls Tryd.prog 131 #[.agg #[.int .i64 x.k, .int .i64 x.n], .int .i64 (n : Int)] w fun e w' => e = .returned (.bool (valB n x)) ∧ Below w.heap.size w w' := by
 obtain ⟨k, y⟩ := x;go_enter Tryd.func131, Tryd.ntmps131
 go_wp2_with (refine (in_any _ _ _ _).mono ?_; rintro e w' ⟨rfl, rfl⟩)
 all_goals
  go_ret
  refine ⟨ret_bool ?_, (Below.refl _ _).alloc (Nat.le_refl _) _⟩;rw [Bool.eq_iff_iff];simp_all [valB, wordB] <;> omega
theorem valueMay_is (n : Nat) (hn : n ≤ 9223372036854775807) (x : V) (b : Bool) (hb : Hid (valB n x = b)) (w : World) :
  Calls Tryd.prog 131 #[.agg #[.int .i64 x.k, .int .i64 x.n], .int .i64 (n : Int)] w fun e w' => e = .returned (.bool b) ∧ Below w.heap.size w w' :=
 (valueMay_any n hn x w).mono fun _ _ ⟨he, h⟩ => ⟨by rw [he, hb.out], h⟩
set_option maxHeartbeats 4000000 in
theorem heapMay_any (m : Int) (S T : Nat → Prop) (A R : Option Addr) (c d : Nat) (os : List Ob) (rs : List V) (w : World) (ho : RdSl obE w S (.slice A os.length c) os) (hq : RdSl vE w T (.slice R rs.length d) rs) :
  Calls Tryd.prog 107 #[.agg #[.int .i64 m, .slice A os.length c], .slice R rs.length d] w fun e w' => e = .returned (.bool (hpB ⟨m, os⟩ rs)) ∧ Below w.heap.size w w' := by
 obtain ⟨-, h1, h2, h3⟩ := ho.lims;obtain ⟨-, h4, h5, h6⟩ := hq.lims;have hn : os.length ≤ 9223372036854775807 := (by omega);have Ho := Lib.hid ho;have Hq := Lib.hid hq;clear ho hq h3 h6;by_cases hl : 0 ≤ m ∧ m ≤ 60 ∧ (os.length : Int) ≤ m
 ·obtain ⟨l1, l2, l3⟩ := hl;have E1 := Lib.hid (show (decide (0 ≤ m) && decide (m ≤ 60)) = true by simp [l1, l2]);go_enter Tryd.func107, Tryd.ntmps107
  go_wp2_with (refine (in_is _ _ _ _ E1 _).mono ?_; rintro e w' ⟨rfl, rfl⟩)
  go_loopw [6, 7, 8] (fun i _ _ wr => ∃ k : Nat, k ≤ os.length ∧ i = .int .i64 k ∧ (os.take k).all (obB os.length) = true ∧ Below (w.heap.size + 1) (w.alloc (.cells #[.int .i64 m, .slice A os.length c] 51)) wr) (fun i _ _ _ => os.length - (intOf i).toNat)
  case atStart => exact ⟨0, by omega, rfl, by simp, Below.refl _ _⟩
  case round =>
   obtain ⟨k, hk, rfl, hall, hb⟩ := hrel;have Hall := Lib.hid hall;clear hall;have hb' : Below w.heap.size w wr := ((Below.refl _ _).alloc (Nat.le_refl _) _).trans (hb.mono (by omega));have k0 : wr.cell? ⟨w.heap.size, 0, none⟩ = some (.int .i64 m) := (hb.cell (p := ⟨w.heap.size, 0, none⟩) (by simp)).trans (by simp [go_sem]);have k1 : wr.cell? ⟨w.heap.size, 1, none⟩ = some (.slice A os.length c) := (hb.cell (p := ⟨w.heap.size, 1, none⟩) (by simp)).trans (by simp [go_sem]);by_cases hlt : k < os.length
   ·obtain ⟨x, hx⟩ : ∃ x, os[k]? = some x := ⟨os[k], List.getElem?_eq_getElem hlt⟩;obtain ⟨b, o, B, e, rfl, _, hbs, g0, g1, hf⟩ := (Ho.out.below (by decide) hb').at_o hx;obtain ⟨-, f1, f2, f3⟩ := hf.lims;have Hx := Lib.hid hx;have Hf := Lib.hid hf;clear hx hf f3;by_cases good : (x.dead = true ∧ x.fields.length = 0) ∨ (x.dead = false ∧ 1 ≤ x.fields.length ∧ x.fields.length ≤ 4)
    ·have hgood : ∀ p : Bool, x.fields.all (valB os.length) = p → obB os.length x = p := by
      intro p hp;rcases good with ⟨q1, q2⟩ | ⟨q1, q2, q3⟩
      ·simp [obB, q1, q2, hp]
      ·have : 0 < x.fields.length := q2;simp [obB, q1, q3, hp, this]
     have Hgood := Lib.hid hgood;clear hgood;have E2 : Hid (x.dead = false → (decide ((1 : Int) ≤ (x.fields.length : Int)) && decide ((x.fields.length : Int) ≤ 4)) = true) := by
      intro hd;rcases good with ⟨q1, q2⟩ | ⟨q1, q2, q3⟩
      ·rw [q1] at hd; cases hd
      ·simp; omega
     rcases good with ⟨q1, q2⟩ | ⟨q1, q2, q3⟩
     all_goals
      rw [q1] at g1;have Q1 := Lib.hid q1;clear q1
     focus
      have q2' : ¬ 0 < x.fields.length := (by omega);have Q2 := Lib.hid q2;clear q2;go_wp2
     rotate_left;focus
      go_wp2_with (refine (in_is _ _ _ _ (E2.out Q1.out) _).mono ?_; rintro e w' ⟨rfl, rfl⟩)
     all_goals
      go_loopw [8] (fun i w2 => ∃ j : Nat, j ≤ x.fields.length ∧ i = .int .i64 j ∧ (x.fields.take j).all (valB os.length) = true ∧ Below wr.heap.size wr w2) (fun i _ => x.fields.length - (intOf i).toNat)
      case atStart => exact ⟨0, by omega, rfl, by simp, Below.refl _ _⟩
      case round =>
       obtain ⟨j, hj, rfl, hall2, hb2⟩ := hrel;have Hall2 := Lib.hid hall2;clear hall2;by_cases hlt2 : j < x.fields.length
       ·obtain ⟨y, hy⟩ : ∃ y, x.fields[j]? = some y := ⟨x.fields[j], List.getElem?_eq_getElem hlt2⟩;obtain ⟨b2, o2, rfl, _, hbs2, y0, y1⟩ := (Hf.out.below (by decide) hb2).at_v hy;have Hy := Lib.hid hy;clear hy
        cases hv : valB os.length y
        all_goals
         have Hv := Lib.hid hv;clear hv;go_wp2_with (refine (valueMay_is os.length hn y _ Hv _).mono ?_; rintro e w' ⟨rfl, hb3⟩)
        ·go_ret
         exact ⟨ret_bool (by simp only [hpB]; rw [all_not Hx.out (Hgood.out _ (all_not Hy.out Hv.out))]; simp), (hb'.trans (hb2.mono hb'.size)).trans (hb3.mono (by have := hb'.size; have := hb2.size; omega))⟩
        ·go_roundw
         case rel => exact ⟨j + 1, by omega, by go_num, all_take_succ Hy.out Hall2.out Hv.out, hb2.trans (hb3.mono hb2.size)⟩
         case measure => simp [intOf]; omega
       ·have hA : x.fields.all (valB os.length) = true := (by have := Hall2.out; rwa [List.take_of_length_le (by omega)] at this);have HA := Lib.hid hA;clear hA;go_wp2
        go_roundw
        case rel => exact ⟨k + 1, by omega, by go_num, all_take_succ Hx.out Hall.out (Hgood.out _ HA.out), hb.trans (hb2.mono (by have := hb.size; simp at this; omega))⟩
        case measure => simp [intOf]; omega
    ·have hbad : obB os.length x = false := by
      rw [Bool.eq_false_iff];intro hc;simp only [obB, Bool.and_eq_true, decide_eq_true_eq, bne_iff_ne] at hc;apply good
      obtain ⟨⟨c1, _⟩, c2⟩ := hc
      cases hd : x.dead with
      | true => rw [hd] at c2; left; simp at c2; exact ⟨rfl, by simp [c2]⟩
      | false => rw [hd] at c2; right; simp at c2; exact ⟨rfl, by have := List.length_pos_iff.2 c2; omega, c1⟩
     have Hbad := Lib.hid (show hpB ⟨m, os⟩ rs = false by simp only [hpB]; rw [all_not Hx.out hbad]; simp);clear hbad
     cases hd : x.dead
     all_goals
      rw [hd] at g1;have Hd := Lib.hid hd;clear hd
     ·have E3 : Hid ((decide ((1 : Int) ≤ (x.fields.length : Int)) && decide ((x.fields.length : Int) ≤ 4)) = false) := by
       show _ = _
       rw [Bool.eq_false_iff];intro hc;simp at hc
       exact good (.inr ⟨Hd.out, by omega, by omega⟩)
      clear good;go_wp2_with (refine (in_is _ _ _ _ E3 _).mono ?_; rintro e w' ⟨rfl, rfl⟩)
      go_ret
      exact ⟨ret_bool Hbad.out.symm, hb'⟩
     ·have q2 : 0 < x.fields.length := by
       rcases Nat.eq_zero_or_pos x.fields.length with h | h
       ·exact absurd (.inl ⟨Hd.out, h⟩) good
       ·exact h
      clear good;go_wp2
      go_ret
      exact ⟨ret_bool Hbad.out.symm, hb'⟩
   ·have hA : os.all (obB os.length) = true := (by have := Hall.out; rwa [List.take_of_length_le (by omega)] at this);have HA := Lib.hid hA;clear hA;go_wp2
    go_loopw [9] (fun i w2 => ∃ j : Nat, j ≤ rs.length ∧ i = .int .i64 j ∧ (rs.take j).all (valB os.length) = true ∧ Below wr.heap.size wr w2) (fun i _ => rs.length - (intOf i).toNat)
    case atStart => exact ⟨0, by omega, rfl, by simp, Below.refl _ _⟩
    case round =>
     obtain ⟨j, hj, rfl, hall2, hb2⟩ := hrel;have Hall2 := Lib.hid hall2;clear hall2;by_cases hlt2 : j < rs.length
     ·obtain ⟨y, hy⟩ : ∃ y, rs[j]? = some y := ⟨rs[j], List.getElem?_eq_getElem hlt2⟩;obtain ⟨b2, o2, rfl, _, hbs2, y0, y1⟩ := ((Hq.out.below (by decide) hb').below (by decide) hb2).at_v hy;have Hy := Lib.hid hy;clear hy
      cases hv : valB os.length y
      all_goals
       have Hv := Lib.hid hv;clear hv;go_wp2_with (refine (valueMay_is os.length hn y _ Hv _).mono ?_; rintro e w' ⟨rfl, hb3⟩)
      ·go_ret
       exact ⟨ret_bool (by simp only [hpB]; rw [all_not Hy.out Hv.out]; simp), (hb'.trans (hb2.mono hb'.size)).trans (hb3.mono (by have := hb'.size; have := hb2.size; omega))⟩
      ·go_roundw
       case rel => exact ⟨j + 1, by omega, by go_num, all_take_succ Hy.out Hall2.out Hv.out, hb2.trans (hb3.mono hb2.size)⟩
       case measure => simp [intOf]; omega
     ·have hB : rs.all (valB os.length) = true := (by have := Hall2.out; rwa [List.take_of_length_le (by omega)] at this);have HB := Lib.hid hB;clear hB;go_wp2
      go_ret
      exact ⟨ret_bool (by simp only [hpB, HA.out, HB.out, limB]; simp [l1, l2, l3]), hb'.trans (hb2.mono hb'.size)⟩
 ·have hL : hpB ⟨m, os⟩ rs = false := by
   have : limB ⟨m, os⟩ = false := (by simp only [limB, Bool.and_eq_false_iff, decide_eq_false_iff_not]; omega);simp [hpB, this]
  have HL := Lib.hid hL;clear hL;by_cases h7 : 0 ≤ m ∧ m ≤ 60
  ·have E1 := Lib.hid (show (decide (0 ≤ m) && decide (m ≤ 60)) = true by simp [h7.1, h7.2]);have l3 : m < (os.length : Int) := (by omega);clear h7 hl;go_enter Tryd.func107, Tryd.ntmps107
   go_wp2_with (refine (in_is _ _ _ _ E1 _).mono ?_; rintro e w' ⟨rfl, rfl⟩)
   go_ret
   exact ⟨ret_bool HL.out.symm, (Below.refl _ _).alloc (Nat.le_refl _) _⟩
  ·have E1 := Lib.hid (show (decide (0 ≤ m) && decide (m ≤ 60)) = false by simp; omega);clear h7 hl;go_enter Tryd.func107, Tryd.ntmps107
   go_wp2_with (refine (in_is _ _ _ _ E1 _).mono ?_; rintro e w' ⟨rfl, rfl⟩)
   go_ret
   exact ⟨ret_bool HL.out.symm, (Below.refl _ _).alloc (Nat.le_refl _) _⟩
end
section
open Go.RowKit
def objectE (os : List Ob) (v : V) (f : Int) : Int :=
 if v.k = 2 then
  match os[v.n.toNat]? with
  | some o => if o.dead then 10 else if f < 0 ∨ (o.fields.length : Int) ≤ f then 2 else 0
  | none => 9
 else 9
theorem valB_ref {n : Nat} {v : V} (h : valB n v = true) (hk : v.k = 2) : 0 ≤ v.n ∧ v.n < n := by
 simp [valB, hk] at h
 exact h
set_option maxHeartbeats 1000000 in
theorem object_is (m : Int) (S : Nat → Prop) (A : Option Addr) (c : Nat) (os : List Ob) (v : V) (f : Int) (w : World) (r : Int) (hE : Hid (objectE os v f = r)) (hv : v.k = 2 → 0 ≤ v.n ∧ v.n < os.length) (hr : RdSl obE w S (.slice A os.length c) os) :
  Calls Tryd.prog 92 #[.agg #[.int .i64 m, .slice A os.length c], .agg #[.int .i64 v.k, .int .i64 v.n], .int .i64 f] w fun e w' => e = .returned (.int .i64 r) ∧ Below w.heap.size w w' := by
 obtain ⟨-, h1, h2, h3⟩ := hr.lims;obtain ⟨k, y⟩ := v;have hBB : Below w.heap.size w ((w.alloc (.cells #[.int .i64 m, .slice A os.length c] 51)).alloc (.cells #[.int .i64 k, .int .i64 y] 61)) := ((Below.refl _ _).alloc (Nat.le_refl _) _).alloc (by simp) _;by_cases hk : k = 2
 ·subst hk;obtain ⟨l1, l2⟩ := hv rfl;simp only at l1 l2;obtain ⟨i, rfl⟩ := Int.eq_ofNat_of_zero_le l1;have hi : i < os.length := (by omega);obtain ⟨o, ho⟩ : ∃ o, os[i]? = some o := ⟨os[i], List.getElem?_eq_getElem hi⟩;obtain ⟨b, p, B, d, rfl, _, hbs, g0, g1, hf⟩ := hr.at_o ho;obtain ⟨-, f1, f2, f3⟩ := hf.lims;have Ho := Lib.hid ho;clear hr hf ho hv f3 h3
  cases hd : o.dead
  all_goals
   rw [hd] at g1;have Hd := Lib.hid hd;clear hd
  ·by_cases hfo : 0 ≤ f ∧ f < (o.fields.length : Int)
   ·obtain ⟨e1, e2⟩ := hfo;have hr0 : r = 0 := (by have := hE.out; simp [objectE, Ho.out, Hd.out] at this; rw [if_neg (by omega)] at this; exact this.symm);subst hr0;clear hE;go_enter Tryd.func92, Tryd.ntmps92
    go_wp2
    go_ret
    exact ⟨rfl, hBB⟩
   ·have hr0 : r = 2 := (by have := hE.out; simp [objectE, Ho.out, Hd.out] at this; rw [if_pos (by omega)] at this; exact this.symm);subst hr0;clear hE;rcases (by omega : f < 0 ∨ (0 ≤ f ∧ (o.fields.length : Int) ≤ f)) with e1 | e1
    all_goals
     clear hfo;go_enter Tryd.func92, Tryd.ntmps92
     go_wp2
     go_ret
     exact ⟨rfl, hBB⟩
  ·have hr0 : r = 10 := (by have := hE.out; simp [objectE, Ho.out, Hd.out] at this; exact this.symm);subst hr0;clear hE;go_enter Tryd.func92, Tryd.ntmps92
   go_wp2
   go_ret
   exact ⟨rfl, hBB⟩
 ·have hr0 : r = 9 := (by have := hE.out; simp [objectE, hk] at this; exact this.symm);subst hr0;have hkb : (k != 2) = true := (by simpa using hk);clear hE hk hv hr h3;go_enter Tryd.func92, Tryd.ntmps92
  go_wp2
  go_ret
  exact ⟨rfl, hBB⟩
theorem check_is (m : Int) (S T : Nat → Prop) (A R : Option Addr) (c d : Nat) (os : List Ob) (rs : List V) (w : World) (n : Int) (hn : Hid (checkN ⟨m, os⟩ rs = n)) (ho : RdSl obE w S (.slice A os.length c) os) (hq : RdSl vE w T (.slice R rs.length d) rs) :
  Calls Tryd.prog 91 #[.agg #[.int .i64 m, .slice A os.length c], .slice R rs.length d] w fun e w' => e = .returned (.int .i64 n) ∧ Below w.heap.size w w' := hn.out ▸ check_any m S T A R c d os rs w ho hq
theorem may_is (m : Int) (S T : Nat → Prop) (A R : Option Addr) (c d : Nat) (os : List Ob) (rs : List V) (w : World) (n : Bool) (hn : Hid (hpB ⟨m, os⟩ rs = n)) (ho : RdSl obE w S (.slice A os.length c) os) (hq : RdSl vE w T (.slice R rs.length d) rs) :
  Calls Tryd.prog 107 #[.agg #[.int .i64 m, .slice A os.length c], .slice R rs.length d] w fun e w' => e = .returned (.bool n) ∧ Below w.heap.size w w' := hn.out ▸ heapMay_any m S T A R c d os rs w ho hq
theorem rd_one {w : World} {b : Nat} {v : V} {t : TypeId} (h : w.heap[b]? = some (.cells #[.int .i64 v.k, .int .i64 v.n] t (0, 0))) : RdSl vE w (fun _ => True) (.slice (some ⟨b, 0, none⟩) [v].length 1) [v] :=
 ⟨_, 1, rfl, Nat.le_refl _, by unfold maxLen; omega, by simp [vE], fun _ => ⟨b, 0, rfl, trivial, fun i x hx => by
  cases i with
  | zero =>
   simp at hx
   subst hx;refine ⟨_, rfl, rfl, fun j u hu => ?_⟩;rw [cell_of_row w b _ _ _ _ h];simp only [Nat.zero_mul, Nat.zero_add];simpa using hu
  | succ n => simp at hx⟩⟩
def fieldAt (os : List Ob) (v : V) (f : Int) : V := ((os[v.n.toNat]?).bind (fun o => o.fields[f.toNat]?)).getD ⟨0, 0⟩
def gotV (m : Int) (os : List Ob) (v : V) (f : Int) : V := if hpB ⟨m, os⟩ [v] = true ∧ objectE os v f = 0 then fieldAt os v f else ⟨0, 0⟩
def gotE (m : Int) (os : List Ob) (v : V) (f : Int) : Int := if hpB ⟨m, os⟩ [v] = true then objectE os v f else 8
theorem objectE_ok {os : List Ob} {v : V} {f : Int} (h : objectE os v f = 0) : v.k = 2 ∧ ∃ o, os[v.n.toNat]? = some o ∧ 0 ≤ f ∧ f < o.fields.length ∧ o.dead = false := by
 unfold objectE at h;split at h
 ·rename_i hk
  split at h
  ·rename_i o ho
   split at h
   ·omega
   ·split at h
    ·omega
    ·rename_i hd hf
     exact ⟨hk, o, ho, by omega, by omega, by simpa using hd⟩
  ·omega
 ·omega
end
section
open Go.RowKit
theorem two_cells {w : World} {g : Nat} {a b x y : Value} {t : TypeId} (h : w.heap[g]? = some (.cells #[a, b] t (0, 0))) :
  ((w.setCell ⟨g, 0, none⟩ x).setCell ⟨g, 1, none⟩ y).cell? ⟨g, 0, none⟩ = some x ∧ ((w.setCell ⟨g, 0, none⟩ x).setCell ⟨g, 1, none⟩ y).cell? ⟨g, 1, none⟩ = some y := by
 have h2 := blk_set (i := 1) (blk_set (i := 0) h x) y;exact ⟨cell_of_row _ g 0 _ _ _ h2, cell_of_row _ g 1 _ _ _ h2⟩
set_option maxRecDepth 100000 in
set_option maxHeartbeats 2000000 in
theorem get_any (m : Int) (S : Nat → Prop) (A : Option Addr) (c : Nat) (os : List Ob) (v : V) (f : Int) (w : World) (hr : RdSl obE w S (.slice A os.length c) os) :
  Calls Tryd.prog 139 #[.agg #[.int .i64 m, .slice A os.length c], .agg #[.int .i64 v.k, .int .i64 v.n], .int .i64 f] w fun e w' =>
   e = .returned (.tuple #[.agg #[.int .i64 (gotV m os v f).k, .int .i64 (gotV m os v f).n], .int .i64 (gotE m os v f)]) ∧ Below w.heap.size w w' := by
 have Hr := Lib.hid hr;obtain ⟨-, h1, h2, h3⟩ := hr.lims;clear hr h3;have hB : Below w.heap.size w ((((w.alloc (.cells #[.int .i64 m, .slice A os.length c] 51)).alloc (.cells #[.int .i64 v.k, .int .i64 v.n] 61)).alloc (.cells #[.int .i64 0, .int .i64 0] 61)).alloc (.cells #[.int .i64 v.k, .int .i64 v.n] 61)) :=
  ((((Below.refl _ _).alloc (Nat.le_refl _) _).alloc (by simp) _).alloc (by simp; omega) _).alloc (by simp; omega) _
 cases hp : hpB ⟨m, os⟩ [v]
 ·have hc : checkN ⟨m, os⟩ [v] = 8 := (by simp [checkN, hp]);have e1 : gotV m os v f = ⟨0, 0⟩ := (by simp [gotV, hp]);have e2 : gotE m os v f = 8 := (by simp [gotE, hp]);rw [e1, e2];have Hc := Lib.hid hc;clear hp hc e1 e2;go_enter Tryd.func139, Tryd.ntmps139
  go_wp2_with fail;refine (check_is m _ _ A _ c 1 os [v] _ _ Hc (Hr.out.below (by decide) hB) (rd_one (blk_at (by simp)))).mono ?_;rintro e w1 ⟨rfl, hb1⟩;have hq : w1.heap[w.heap.size + 1 + 1]? = some (.cells #[.int .i64 0, .int .i64 0] 61 (0, 0)) := (hb1.block _ (by simp)).trans (blk_old (blk_at (by simp)));have q4 : w1.cell? ⟨w.heap.size + 1 + 1, 0, none⟩ = some (.int .i64 0) := cell_of_row w1 _ 0 _ _ _ hq;have q5 : w1.cell? ⟨w.heap.size + 1 + 1, 1, none⟩ = some (.int .i64 0) := cell_of_row w1 _ 1 _ _ _ hq;have f4 : w1.frozen? ⟨w.heap.size + 1 + 1, 0, none⟩ = false := (by simp [World.frozen?, hq]);have f5 : w1.frozen? ⟨w.heap.size + 1 + 1, 1, none⟩ = false := (by simp [World.frozen?, hq]);have hbb : Below w.heap.size w w1 := hB.trans (hb1.mono hB.size);obtain ⟨r0, r1⟩ := two_cells (x := .int .i64 0) (y := .int .i64 0) hq;have R0 := Lib.hid r0;have R1 := Lib.hid r1;clear hq r0 r1;go_wp2
  exact bodyPost_ret (v := .tuple #[.agg #[.int .i64 0, .int .i64 0], .int .i64 8]) (by simp [results, Tryd.results139, go_sem, R0.out, R1.out]) rfl ⟨rfl, (hbb.setCell (by simp; omega) _).setCell (by simp; omega) _⟩
 ·have hc : checkN ⟨m, os⟩ [v] = 0 := (by simp [checkN, hp]);have hval : v.k = 2 → 0 ≤ v.n ∧ v.n < os.length := fun hk => valB_ref (by simp [hpB] at hp; exact hp.2) hk;have eE : gotE m os v f = objectE os v f := (by simp [gotE, hp]);have Hc := Lib.hid hc;have Hv := Lib.hid hval;have Hp := Lib.hid hp;clear hp hc hval;by_cases ho : objectE os v f = 0
  ·obtain ⟨hk, o, hoo, e1, e2, _⟩ := objectE_ok ho;obtain ⟨l1, l2⟩ := Hv.out hk;obtain ⟨vk, vn⟩ := v;simp only at hk l1 l2 hoo;subst hk;obtain ⟨i, rfl⟩ := Int.eq_ofNat_of_zero_le l1;obtain ⟨j, rfl⟩ := Int.eq_ofNat_of_zero_le e1;simp only [Int.toNat_natCast] at hoo;have hj : j < o.fields.length := (by omega);have hi : i < os.length := (by omega);obtain ⟨x, hx⟩ : ∃ x, o.fields[j]? = some x := ⟨o.fields[j], List.getElem?_eq_getElem hj⟩;have e3 : gotV m os ⟨2, (i : Int)⟩ (j : Int) = x := by
    rw [gotV, if_pos ⟨Hp.out, ho⟩];simp [fieldAt, hoo, hx]
   rw [e3, eE, ho];have Hr2 := Lib.hid ho;have Ho := Lib.hid hoo;have Hx := Lib.hid hx;clear e3 eE ho hoo hx;go_enter Tryd.func139, Tryd.ntmps139
   go_wp2_with fail;refine (check_is m _ _ A _ c 1 os [⟨2, (i : Int)⟩] _ _ Hc (Hr.out.below (by decide) hB) (rd_one (blk_at (by simp)))).mono ?_;rintro e w0 ⟨rfl, hb0⟩;have p0 : w0.cell? ⟨w.heap.size, 0, none⟩ = some (.int .i64 m) := (hb0.cell (p := ⟨w.heap.size, 0, none⟩) (by simp; omega)).trans (by simp [go_sem]);have p1 : w0.cell? ⟨w.heap.size, 1, none⟩ = some (.slice A os.length c) := (hb0.cell (p := ⟨w.heap.size, 1, none⟩) (by simp; omega)).trans (by simp [go_sem]);have p2 : w0.cell? ⟨w.heap.size + 1, 0, none⟩ = some (.int .i64 2) := (hb0.cell (p := ⟨w.heap.size + 1, 0, none⟩) (by simp)).trans (by simp [go_sem]);have p3 : w0.cell? ⟨w.heap.size + 1, 1, none⟩ = some (.int .i64 (i : Int)) := (hb0.cell (p := ⟨w.heap.size + 1, 1, none⟩) (by simp)).trans (by simp [go_sem]);have hz0 : w.heap.size + 1 + 1 + 1 + 1 ≤ w0.heap.size := (by have := hb0.size; simpa using this);go_wp2_with fail;refine (object_is m _ A c os ⟨2, (i : Int)⟩ (j : Int) _ 0 Hr2 (fun _ => ⟨l1, l2⟩) ((Hr.out.below (by decide) hB).below (by decide) hb0)).mono ?_;rintro e w1 ⟨rfl, hb1⟩;have hq : w1.heap[w.heap.size + 1 + 1]? = some (.cells #[.int .i64 0, .int .i64 0] 61 (0, 0)) := (hb1.block _ (by omega)).trans ((hb0.block _ (by simp)).trans (blk_old (blk_at (by simp))));have q4 : w1.cell? ⟨w.heap.size + 1 + 1, 0, none⟩ = some (.int .i64 0) := cell_of_row w1 _ 0 _ _ _ hq;have q5 : w1.cell? ⟨w.heap.size + 1 + 1, 1, none⟩ = some (.int .i64 0) := cell_of_row w1 _ 1 _ _ _ hq;have f4 : w1.frozen? ⟨w.heap.size + 1 + 1, 0, none⟩ = false := (by simp [World.frozen?, hq]);have f5 : w1.frozen? ⟨w.heap.size + 1 + 1, 1, none⟩ = false := (by simp [World.frozen?, hq]);have hbb : Below w.heap.size w w1 := (hB.trans (hb0.mono hB.size)).trans (hb1.mono (by omega));obtain ⟨b, p, B, d, rfl, _, hbs, g0, g1, hfl⟩ := Hr.out.at_o Ho.out;obtain ⟨b2, p2', rfl, _, hbs2, y0, y1⟩ := hfl.at_v Hx.out;have z1 : w1.cell? ⟨b, p + i * 2, none⟩ = _ := (hbb.cell (p := ⟨b, p + i * 2, none⟩) hbs).trans g0;have z2 : w1.cell? ⟨b2, p2' + j * 2, none⟩ = _ := (hbb.cell (p := ⟨b2, p2' + j * 2, none⟩) hbs2).trans y0;have z3 : w1.cell? ⟨b2, p2' + j * 2 + 1, none⟩ = _ := (hbb.cell (p := ⟨b2, p2' + j * 2 + 1, none⟩) hbs2).trans y1;have z4 : w1.cell? ⟨w.heap.size, 1, none⟩ = _ := (hb1.cell (p := ⟨w.heap.size, 1, none⟩) (by show w.heap.size < w0.heap.size; omega)).trans p1;have z5 : w1.cell? ⟨w.heap.size + 1, 1, none⟩ = _ := (hb1.cell (p := ⟨w.heap.size + 1, 1, none⟩) (by show w.heap.size + 1 < w0.heap.size; omega)).trans p3;clear p0 p1 p2 p3 g0 g1 hfl y0 y1;have i1 : (0 : Int) ≤ (i : Int) := (by omega);have i2 : (i : Int) < (os.length : Int) := (by omega);have j1 : (0 : Int) ≤ (j : Int) := (by omega);have j2 : (j : Int) < (o.fields.length : Int) := (by omega);obtain ⟨r0, r1⟩ := two_cells (x := .int .i64 x.k) (y := .int .i64 x.n) hq;have R0 := Lib.hid r0;have R1 := Lib.hid r1;clear hq r0 r1;go_wp2
   exact bodyPost_ret (v := .tuple #[.agg #[.int .i64 x.k, .int .i64 x.n], .int .i64 0]) (by simp [results, Tryd.results139, go_sem, R0.out, R1.out]) rfl ⟨rfl, (hbb.setCell (by simp; omega) _).setCell (by simp; omega) _⟩
  ·have e1 : gotV m os v f = ⟨0, 0⟩ := (by simp [gotV, ho]);have hne : (objectE os v f != 0) = true := (by simpa using ho);rw [e1, eE];clear e1 eE ho;obtain ⟨r, hr⟩ : ∃ r, objectE os v f = r := ⟨_, rfl⟩;have Hr2 := Lib.hid hr;rw [hr] at hne;rw [hr];clear hr;go_enter Tryd.func139, Tryd.ntmps139
   go_wp2_with fail;refine (check_is m _ _ A _ c 1 os [v] _ _ Hc (Hr.out.below (by decide) hB) (rd_one (blk_at (by simp)))).mono ?_;rintro e w0 ⟨rfl, hb0⟩;have p0 : w0.cell? ⟨w.heap.size, 0, none⟩ = some (.int .i64 m) := (hb0.cell (p := ⟨w.heap.size, 0, none⟩) (by simp; omega)).trans (by simp [go_sem]);have p1 : w0.cell? ⟨w.heap.size, 1, none⟩ = some (.slice A os.length c) := (hb0.cell (p := ⟨w.heap.size, 1, none⟩) (by simp; omega)).trans (by simp [go_sem]);have p2 : w0.cell? ⟨w.heap.size + 1, 0, none⟩ = some (.int .i64 v.k) := (hb0.cell (p := ⟨w.heap.size + 1, 0, none⟩) (by simp)).trans (by simp [go_sem]);have p3 : w0.cell? ⟨w.heap.size + 1, 1, none⟩ = some (.int .i64 v.n) := (hb0.cell (p := ⟨w.heap.size + 1, 1, none⟩) (by simp)).trans (by simp [go_sem]);have hz0 : w.heap.size + 1 + 1 + 1 + 1 ≤ w0.heap.size := (by have := hb0.size; simpa using this);go_wp2_with fail;refine (object_is m _ A c os v f _ r Hr2 Hv.out ((Hr.out.below (by decide) hB).below (by decide) hb0)).mono ?_;rintro e w1 ⟨rfl, hb1⟩;have hq : w1.heap[w.heap.size + 1 + 1]? = some (.cells #[.int .i64 0, .int .i64 0] 61 (0, 0)) := (hb1.block _ (by omega)).trans ((hb0.block _ (by simp)).trans (blk_old (blk_at (by simp))));have q4 : w1.cell? ⟨w.heap.size + 1 + 1, 0, none⟩ = some (.int .i64 0) := cell_of_row w1 _ 0 _ _ _ hq;have q5 : w1.cell? ⟨w.heap.size + 1 + 1, 1, none⟩ = some (.int .i64 0) := cell_of_row w1 _ 1 _ _ _ hq;have f4 : w1.frozen? ⟨w.heap.size + 1 + 1, 0, none⟩ = false := (by simp [World.frozen?, hq]);have f5 : w1.frozen? ⟨w.heap.size + 1 + 1, 1, none⟩ = false := (by simp [World.frozen?, hq]);have hbb : Below w.heap.size w w1 := (hB.trans (hb0.mono hB.size)).trans (hb1.mono (by omega));obtain ⟨r0, r1⟩ := two_cells (x := .int .i64 0) (y := .int .i64 0) hq;have R0 := Lib.hid r0;have R1 := Lib.hid r1;clear hq r0 r1;go_wp2
   exact bodyPost_ret (v := .tuple #[.agg #[.int .i64 0, .int .i64 0], .int .i64 r]) (by simp [results, Tryd.results139, go_sem, R0.out, R1.out]) rfl ⟨rfl, (hbb.setCell (by simp; omega) _).setCell (by simp; omega) _⟩
end
section
open Go.RowKit
def setOs (os : List Ob) (i j : Nat) (x : V) : List Ob := os.modify i (fun o => ⟨o.fields.set j x, o.dead⟩)
def setE (h : Hp) (v : V) (f : Int) (x : V) : Int := if hpB h [v, x] = false then 8 else objectE h.objs v f
def setH (h : Hp) (v : V) (f : Int) (x : V) : Hp := if setE h v f x = 0 then ⟨h.most, setOs h.objs v.n.toNat f.toNat x⟩ else ⟨0, []⟩
def SetD (w : World) (h : Hp) (v : V) (f : Int) (x : V) (en : Ending) (w' : World) : Prop :=
 ∃ u, en = .returned (.tuple #[u, .int .i64 (setE h v f x)]) ∧ RdH w' w.heap.size u (setH h v f x) ∧ Below w.heap.size w w'
theorem setOs_len (os : List Ob) (i j : Nat) (x : V) : (setOs os i j x).length = os.length := by simp [setOs]
theorem setOs_at {os : List Ob} {i j k : Nat} {x : V} : (setOs os i j x)[k]? = if i = k then (os[k]?).map (fun o => ⟨o.fields.set j x, o.dead⟩) else os[k]? := by
 simp only [setOs, List.getElem?_modify];split
 ·rfl
 ·cases os[k]? <;> rfl
theorem rowsOf_same {vs : List Value} {os os' : List Ob} (h : ∀ i : Nat, (os'[i]?).map (·.dead) = (os[i]?).map (·.dead)) : rowsOf vs os' = rowsOf vs os := by
 apply List.ext_getElem?
 intro i;simp only [rowsOf, List.getElem?_zipWith];have := h i
 cases vs[i]? with
 | none => rfl
 | some u =>
  cases h1 : os'[i]? <;> cases h2 : os[i]? <;> simp [h1, h2] at this ⊢
  exact this
theorem rows_setOs {vs : List Value} {os : List Ob} {i j : Nat} {x : V} : rowsOf vs (setOs os i j x) = rowsOf vs os := rowsOf_same fun k => by
 rw [setOs_at];split
 ·cases os[k]? <;> rfl
 ·rfl
theorem own_frozen {w : World} {base : Nat} {e : TypeId} {size : Nat} {g n c : Nat} {xs : List Value} (h : w.ownsRow base e size (.slice (some ⟨g, 0, none⟩) n c) n xs) (i : Nat) : w.frozen? ⟨g, i, none⟩ = false := by
 rcases h.2 with ⟨h0, _⟩ | ⟨g', cap, cur, hv, _, hh, _⟩
 ·cases h0
 ·cases hv
  simp [World.frozen?, hh]
theorem own_cell {w : World} {base : Nat} {e : TypeId} {size : Nat} {g n c : Nat} {xs : List Value} (h : w.ownsRow base e size (.slice (some ⟨g, 0, none⟩) n c) n xs) {i : Nat} {u : Value} (hi : xs[i]? = some u) : w.cell? ⟨g, i, none⟩ = some u := by
 have := h.cells (g := g) rfl i u hi;rw [addr_add] at this;simpa using this
theorem own_pos {w : World} {base : Nat} {e : TypeId} {size : Nat} {A : Option Addr} {n c : Nat} {xs : List Value} (h : w.ownsRow base e size (.slice A n c) n xs) (hn : 0 < n) : ∃ g, A = some ⟨g, 0, none⟩ ∧ base ≤ g := by
 rcases h.2 with ⟨h0, h1⟩ | ⟨g', cap, cur, hv, hb, hh, _⟩
 ·omega
 ·cases hv
  exact ⟨g', rfl, hb⟩
theorem blk_ne {w : World} {a b : Nat} {cs cs' : Array Value} {t t' : TypeId} {fr fr' : Nat × Nat} (h : w.heap[a]? = some (.cells cs t fr)) (h' : w.heap[b]? = some (.cells cs' t' fr')) (ht : t ≠ t') : a ≠ b := fun e => by
 subst e;rw [h] at h';injection h' with h'
 injection h' with _ h'
 exact ht h'
theorem OwnSl.setV {w : World} {base : Nat} {g n c : Nat} {xs : List V} (h : OwnSl vE w (fun _ => False) base 61 (.slice (some ⟨g, 0, none⟩) n c) xs) (hn : n = xs.length) {j : Nat} (hj : j < xs.length) (x : V) :
  OwnSl vE ((w.setCell ⟨g, j * 2, none⟩ (.int .i64 x.k)).setCell ⟨g, j * 2 + 1, none⟩ (.int .i64 x.n)) (fun _ => False) base 61 (.slice (some ⟨g, 0, none⟩) n c) (xs.set j x) := by
 subst hn;obtain ⟨css, hH, hr, hs⟩ := h;obtain ⟨y, hy⟩ : ∃ y, xs[j]? = some y := ⟨xs[j], List.getElem?_eq_getElem hj⟩;have hjc : j < css.length := (by rw [hH.len]; exact hj);have hc : css[j]? = some css[j] := List.getElem?_eq_getElem hjc;have hcs : css[j] = [.int .i64 y.k, .int .i64 y.n] := (hH.each j y _ hy hc).2;have h1 := own_store (own_store hr (j * 2) (.int .i64 x.k)) (j * 2 + 1) (.int .i64 x.n);have hf : (css.flatten.set (j * 2) (Value.int .i64 x.k)).set (j * 2 + 1) (.int .i64 x.n) = (css.set j [.int .i64 x.k, .int .i64 x.n]).flatten := by
  have e1 := flat_set (size := 2) (i := j) (j := 0) (Value.int .i64 x.k) hH.size hc (by omega);have hsz : ∀ cs ∈ css.set j (css[j].set 0 (.int .i64 x.k)), cs.length = 2 := fun cs hm => by
   rcases List.mem_or_eq_of_mem_set hm with hm | rfl
   ·exact hH.size cs hm
   ·rw [hcs]; rfl
  have e2 := flat_set (size := 2) (i := j) (j := 1) (cs := css[j].set 0 (.int .i64 x.k)) (Value.int .i64 x.n) hsz (by simp [hjc]) (by omega);rw [Nat.add_zero] at e1;rw [← e1, ← e2, List.set_set, hcs];rfl
 rw [hf] at h1;refine ⟨css.set j [.int .i64 x.k, .int .i64 x.n], ⟨by simp [hH.len], fun i z cs hz hcz => ?_⟩, by simpa using h1, by simpa using hs⟩;by_cases hij : j = i
 ·subst hij;rw [List.getElem?_set_self hj] at hz;rw [List.getElem?_set_self hjc] at hcz;injection hz with hz
  injection hcz with hcz
  subst hz; subst hcz;exact ⟨rfl, rfl⟩
 ·rw [List.getElem?_set_ne hij] at hz hcz;exact hH.each i z cs hz hcz
theorem SepTo.store {w : World} {base : Nat} {A : Option Addr} {C : Nat} {os : List Ob} {vs : List Value} (h : SepTo w (fun _ => False) base (.slice A os.length C) os vs os.length) {i j : Nat} {o : Ob} (ho : os[i]? = some o) (hj : j < o.fields.length) (x : V) :
  ∃ g q c y z, A = some ⟨g, 0, none⟩ ∧ base ≤ g ∧ w.cell? ⟨g, i * 2, none⟩ = some (.slice (some ⟨q, 0, none⟩) o.fields.length c) ∧ base ≤ q ∧ w.frozen? ⟨q, j * 2, none⟩ = false ∧ w.frozen? ⟨q, j * 2 + 1, none⟩ = false ∧
   w.cell? ⟨q, j * 2, none⟩ = some y ∧ w.cell? ⟨q, j * 2 + 1, none⟩ = some z ∧
   (∃ cs, w.heap[g]? = some (.cells cs 124 (0, 0))) ∧ (∃ cs, w.heap[q]? = some (.cells cs 61 (0, 0))) ∧
   SepTo ((w.setCell ⟨q, j * 2, none⟩ (.int .i64 x.k)).setCell ⟨q, j * 2 + 1, none⟩ (.int .i64 x.n)) (fun _ => False) base (.slice A os.length C) (setOs os i j x) vs (setOs os i j x).length := by
 have hi : i < os.length := (List.getElem?_eq_some_iff.1 ho).1;obtain ⟨g, rfl, hg⟩ := own_pos h.row (by omega);obtain ⟨u, hu⟩ : ∃ u, vs[i]? = some u := ⟨vs[i]'(by rw [h.len]; exact hi), List.getElem?_eq_getElem _⟩;have hd := h.done i o u hi ho hu;obtain ⟨B, c, rfl⟩ := hd.form;have hd' := hd;obtain ⟨css, hH, hr, hs⟩ := hd';obtain ⟨q, rfl, hq⟩ := own_pos hr (by omega);obtain ⟨yv, hyv⟩ : ∃ y, o.fields[j]? = some y := ⟨o.fields[j], List.getElem?_eq_getElem hj⟩;have hjc : j < css.length := (by rw [hH.len]; exact hj);have hc : css[j]? = some css[j] := List.getElem?_eq_getElem hjc;have hcs : css[j] = [.int .i64 yv.k, .int .i64 yv.n] := (hH.each j yv _ hyv hc).2;rw [hcs] at hc;have k0 := own_cell hr (flat_at hH.size hc (j := 0) rfl);have k1 := own_cell hr (flat_at hH.size hc (j := 1) rfl);refine ⟨g, q, c, _, _, rfl, hg, own_cell h.row (flat_at (rowsOf_size vs os) (rowsOf_at ho hu) (j := 0) rfl), hq, own_frozen hr _, own_frozen hr _, k0, k1, own_type h.row rfl, own_type hr rfl, ?_⟩;have hgq : g ≠ q := fun e => own_ne h.row hr (by decide) (b := g) rfl (by simp [Value.ownBlock, e]);have hkeep : ∀ b, b ≠ q → ((w.setCell ⟨q, j * 2, none⟩ (.int .i64 x.k)).setCell ⟨q, j * 2 + 1, none⟩ (.int .i64 x.n)).heap[b]? = w.heap[b]? := fun b hb =>
  (Below.heap_setCell _ _ _ _ hb).trans (Below.heap_setCell _ _ _ _ hb)
 refine ⟨by rw [setOs_len]; exact h.len, ?_, fun i' p z' hi' hp hz => ?_, fun i' p z' hi' hp _ => ?_, fun a b z z' bl ha hb hab hz hz' h1 h2 => ?_⟩
 ·rw [rows_setOs, setOs_len];exact own_keep h.row (Nat.le_refl _) (fun b hb => hkeep b (by simp [Value.ownBlock] at hb; omega))
 ·rw [setOs_len] at hi';rw [setOs_at] at hp;by_cases hii : i = i'
  ·subst hii;rw [if_pos rfl, ho] at hp;injection hp with hp
   rw [hu] at hz;injection hz with hz
   subst hp; subst hz;exact hd.setV rfl hj x
  ·rw [if_neg hii] at hp;have hd2 := h.done i' p z' hi' hp hz;refine hd2.keep (Nat.le_refl _) (fun b hb => hkeep b (fun e => ?_)) (fun _ _ h => h.elim);subst e;exact h.apart i i' _ z' b hi hi' hii hu hz (by simp [Value.ownBlock]) hb
 ·have := (List.getElem?_eq_some_iff.1 hp).1; omega
 ·rw [setOs_len] at ha hb;exact h.apart a b z z' bl ha hb hab hz hz' h1 h2
theorem SepTo.draw {w : World} {S : Nat → Prop} {base : Nat} {v : Value} {os : List Ob} {vs : List Value} (h : SepTo w S base v os vs os.length) : SepTo w.drew S base v os vs os.length :=
 SepTo.keep (w := w) (Nat.le_refl _) (fun _ _ _ => rfl) h
theorem rd_two {w : World} {b : Nat} {v x : V} {t : TypeId} (h : w.heap[b]? = some (.cells #[.int .i64 v.k, .int .i64 v.n, .int .i64 x.k, .int .i64 x.n] t (0, 0))) : RdSl vE w (fun _ => True) (.slice (some ⟨b, 0, none⟩) [v, x].length 2) [v, x] :=
 ⟨_, 2, rfl, Nat.le_refl _, by unfold maxLen; omega, by simp [vE], fun _ => ⟨b, 0, rfl, trivial, fun i y hy => by
  match i, hy with
  | 0, hy =>
   cases hy
   exact ⟨_, rfl, rfl, fun j u hu => by
    match j, hu with
    | 0, hu => (cases hu; simp [World.cell?, h, vE])
    | 1, hu => (cases hu; simp [World.cell?, h, vE])⟩
  | 1, hy =>
   cases hy
   exact ⟨_, rfl, rfl, fun j u hu => by
    match j, hu with
    | 0, hu => (cases hu; simp [World.cell?, h, vE])
    | 1, hu => (cases hu; simp [World.cell?, h, vE])⟩⟩⟩
end
end Go.Proofs.YtabcjdalifhpdaaDoor
