/- The walks of the statements' own comparisons: data that are the same are told to be. No condition beside what is read. The walks of heap.New and of the document's answer to it. No condition. -/
import Derived.Test.YtabcjdalifhpdaaDoorHeapA
namespace Go.Proofs.YtabcjdalifhpdaaDoor
section
open Go.RowKit
theorem quiet_add {P : Program} {f : FuncId} {args : Array Value} {w : World} {a n : Nat} {v : Value}
  (h : Calls P f args (w.drewN (a + n)) fun e w' => e = .returned v ∧ ∃ m, w' = (w.drewN (a + n)).drewN m) :
  Calls P f args (w.drewN (a + n)) fun e w'' => e = .returned v ∧ ∃ m, w'' = w.drewN (a + m) :=
 h.mono fun _ _ ⟨he, m, hm⟩ => ⟨he, n + m, by rw [hm, World.drewN_drewN, Nat.add_assoc]⟩
theorem below_drewN {B : Nat} {a w : World} (h : Below B a w) (n : Nat) : Below B a (w.drewN n) := ⟨h.os, h.tape, h.output, h.size, h.block⟩
set_option maxHeartbeats 400000 in
theorem sameValues_eq (S T : Nat → Prop) (A B : Option Addr) (c d : Nat) (l : List V) (w : World) (ha : RdSl vE w S (.slice A l.length c) l) (hb : RdSl vE w T (.slice B l.length d) l) :
  Calls Tryd.prog 77 #[.slice A l.length c, .slice B l.length d] w fun e w' => e = .returned (.bool true) ∧ ∃ n, w' = w.drewN n := by
 obtain ⟨-, h1, h2, h3⟩ := ha.lims;have Ha := Lib.hid ha;have Hb := Lib.hid hb;clear ha hb;go_enter Tryd.func77, Tryd.ntmps77
 go_wp2
 go_loopw [5] (fun i wr => ∃ k : Nat, k ≤ l.length ∧ i = .int .i64 k ∧ ∃ q, wr = w.drewN q) (fun i _ => l.length - (intOf i).toNat)
 case atStart => exact ⟨0, by omega, rfl, 0, rfl⟩
 case round =>
  obtain ⟨k, hk, rfl, q, rfl⟩ := hrel;by_cases hlt : k < l.length
  ·obtain ⟨x, hx⟩ : ∃ x, l[k]? = some x := ⟨l[k], List.getElem?_eq_getElem hlt⟩;obtain ⟨b, o, rfl, _, _, g0, g1⟩ := Ha.out.at_v hx;obtain ⟨b', o', rfl, _, _, k0, k1⟩ := Hb.out.at_v hx;have i1 : (0 : Int) ≤ (k : Int) := (by omega);have i2 : (k : Int) < (l.length : Int) := (by omega);clear hx;go_wp2
   go_quiet (fail)
   go_wp2
   go_roundw
   case rel => exact ⟨k + 1, by omega, by go_num, _, rfl⟩
   case measure => simp [intOf]; omega
  ·go_wp2
   go_ret
   exact ⟨rfl, q, rfl⟩
set_option maxHeartbeats 2000000 in
theorem sameHeap_eq (m : Int) (S T : Nat → Prop) (A B : Option Addr) (c d : Nat) (l : List Ob) (w : World) (ha : RdSl obE w S (.slice A l.length c) l) (hb : RdSl obE w T (.slice B l.length d) l) :
  Calls Tryd.prog 76 #[.agg #[.int .i64 m, .slice A l.length c], .agg #[.int .i64 m, .slice B l.length d]] w fun e w' => e = .returned (.bool true) ∧ Below w.heap.size w w' := by
 obtain ⟨-, h1, h2, h3⟩ := ha.lims;have Ha := Lib.hid ha;have Hb := Lib.hid hb;clear ha hb;have hm : (m == m) = true := (by simp);have hB : Below w.heap.size w ((w.alloc (.cells #[.int .i64 m, .slice A l.length c] 51)).alloc (.cells #[.int .i64 m, .slice B l.length d] 51)) :=
  ((Below.refl _ _).alloc (Nat.le_refl _) _).alloc (by simp) _
 go_enter Tryd.func76, Tryd.ntmps76
 go_wp2
 go_loopw [5] (fun i wr => ∃ k : Nat, k ≤ l.length ∧ i = .int .i64 k ∧ ∃ q, wr = ((w.alloc (.cells #[.int .i64 m, .slice A l.length c] 51)).alloc (.cells #[.int .i64 m, .slice B l.length d] 51)).drewN q) (fun i _ => l.length - (intOf i).toNat)
 case atStart => exact ⟨0, by omega, rfl, 0, rfl⟩
 case round =>
  obtain ⟨k, hk, rfl, q, rfl⟩ := hrel;by_cases hlt : k < l.length
  ·obtain ⟨x, hx⟩ : ∃ x, l[k]? = some x := ⟨l[k], List.getElem?_eq_getElem hlt⟩;obtain ⟨b, o, C, e, rfl, _, hb1, g0, g1, gf⟩ := Ha.out.at_o hx;obtain ⟨b', o', C', e', rfl, _, hb2, k0, k1, kf⟩ := Hb.out.at_o hx;have Gf := Lib.hid (gf.below (by decide) hB);have Kf := Lib.hid (kf.below (by decide) hB);have i1 : (0 : Int) ≤ (k : Int) := (by omega);have i2 : (k : Int) < (l.length : Int) := (by omega);have i3 : (x.dead != x.dead) = false := (by simp);clear hx gf kf;go_wp2
   go_quiet ((go_at_call 77; refine quiet_add (sameValues_eq _ _ _ _ _ _ _ _ (Gf.out.below (by decide) (below_drewN (Below.refl _ _) _)) (Kf.out.below (by decide) (below_drewN (Below.refl _ _) _)))))
   go_wp2
   go_roundw
   case rel => exact ⟨k + 1, by omega, by go_num, _, rfl⟩
   case measure => simp [intOf]; omega
  ·go_wp2
   go_ret
   exact ⟨rfl, below_drewN hB q⟩
end
section
open Go.RowKit
def newM (most : Int) : Int := if 0 ≤ most ∧ most ≤ 60 then most else 0
def newE (most : Int) : Int := if 0 ≤ most ∧ most ≤ 60 then 0 else 2
set_option maxHeartbeats 400000 in
theorem new_any (most : Int) (w : World) :
  Calls Tryd.prog 53 #[.int .i64 most] w fun e w' => e = .returned (.tuple #[.agg #[.int .i64 (newM most), .slice none 0 0], .int .i64 (newE most)]) ∧ Below w.heap.size w w' := by
 by_cases h : 0 ≤ most ∧ most ≤ 60
 ·obtain ⟨h1, h2⟩ := h;have e1 : newM most = most := if_pos ⟨h1, h2⟩;have e2 : newE most = 0 := if_pos ⟨h1, h2⟩;rw [e1, e2];clear e1 e2;go_enter Tryd.func53, Tryd.ntmps53
  go_wp2
  exact bodyPost_ret (v := .tuple #[.agg #[.int .i64 most, .slice none 0 0], .int .i64 0]) (by simp [results, Tryd.results53, go_sem]) rfl ⟨rfl, (Below.refl _ _).alloc (Nat.le_refl _) _⟩
 ·have e1 : newM most = 0 := if_neg h;have e2 : newE most = 2 := if_neg h;rw [e1, e2];clear e1 e2;rcases (by omega : most < 0 ∨ (0 ≤ most ∧ 60 < most)) with h1 | h1
  all_goals
   clear h;go_enter Tryd.func53, Tryd.ntmps53
   go_wp2
   exact bodyPost_ret (v := .tuple #[.agg #[.int .i64 0, .slice none 0 0], .int .i64 2]) (by simp [results, Tryd.results53, go_sem]) rfl ⟨rfl, (Below.refl _ _).alloc (Nat.le_refl _) _⟩
theorem RdSl.nil {α : Type} {E : El α} {w : World} {S : Nat → Prop} : RdSl E w S (.slice none ([] : List α).length 0) [] :=
 ⟨none, 0, rfl, Nat.le_refl _, Nat.zero_le _, by simp, fun h => absurd rfl h⟩
end
end Go.Proofs.YtabcjdalifhpdaaDoor
