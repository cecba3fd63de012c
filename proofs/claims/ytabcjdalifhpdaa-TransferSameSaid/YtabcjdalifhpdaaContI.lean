/- The walks of slices.Index and slices.Contains on numbers. No condition beside what is read. -/
import Derived.Test.YtabcjdalifhpdaaLoc
namespace Go.Proofs.Ytabcjdalifhpdaa
open Go.RowKit
set_option maxHeartbeats 2000000 in
theorem indexI_any (S : Nat → Prop) (A : Option Addr) (c : Nat) (l : List Int) (n : Int) (w : World) (hl : RdSl iE w S (.slice A l.length c) l) :
  Calls Try.prog 25 #[.slice A l.length c, .int .i64 n] w fun e w' => ∃ r : Int, e = .returned (.int .i64 r) ∧ decide (0 ≤ r) = decide (n ∈ l) ∧ w' = w := by
 obtain ⟨-, g1, g2, g3⟩ := hl.lims;have Hl := Lib.hid hl;clear hl g3;go_enter Try.func25, Try.ntmps25
 go_wp2
 go_loopw [5, 8] (fun _ i wr => ∃ k : Nat, k ≤ l.length ∧ i = .int .i64 k ∧ n ∉ l.take k ∧ wr = w) (fun _ i _ => l.length - (intOf i).toNat)
 case atStart => exact ⟨0, by omega, rfl, by simp, rfl⟩
 case round =>
  obtain ⟨k, hk, rfl, hni, rfl⟩ := hrel;by_cases hlt : k < l.length
  ·obtain ⟨x, hx⟩ : ∃ x, l[k]? = some x := ⟨l[k], List.getElem?_eq_getElem hlt⟩;obtain ⟨b, o, rfl, _, _, y0⟩ := Hl.out.at_i hx;have i1 : (0 : Int) ≤ (k : Int) := (by omega);have i2 : (k : Int) < (l.length : Int) := (by omega);have Hx := Lib.hid hx;have Hni := Lib.hid hni;clear hx hni;by_cases hxn : n = x
   ·subst hxn;have hb : (n == n) = true := (by simp);have Hm := Lib.hid (List.mem_of_getElem? Hx.out);go_wp2
    go_ret
    exact ⟨_, rfl, by simp [Hm.out], rfl⟩
   ·have hb : (n == x) = false := (by simpa using hxn);go_wp2
    go_roundw
    case rel =>
     refine ⟨k + 1, by omega, by go_num, ?_, by simp⟩;rw [List.take_add_one, Hx.out];intro h;rcases List.mem_append.1 h with h | h
     ·exact Hni.out h
     ·simp at h; exact hxn h
    case measure => simp [intOf]; omega
  ·have hx : l.take k = l := List.take_of_length_le (by omega);rw [hx] at hni;have Hni := Lib.hid hni;clear hni hx;go_wp2
   go_ret
   exact ⟨_, rfl, by simp [Hni.out], rfl⟩
set_option maxHeartbeats 400000 in
theorem containsI_is (S : Nat → Prop) (A : Option Addr) (c : Nat) (l : List Int) (n : Int) (w : World) (r : Bool) (hr : decide (n ∈ l) = r) (hl : RdSl iE w S (.slice A l.length c) l) :
  Calls Try.prog 11 #[.slice A l.length c, .int .i64 n] w fun e w' => e = .returned (.bool r) ∧ w' = w := by
 have Hl := Lib.hid hl;have Hr := Lib.hid hr;clear hl hr;go_enter Try.func11, Try.ntmps11
 go_wp2_with fail;refine (indexI_any S A c l n _ Hl.out).mono ?_;rintro e w' ⟨q, rfl, hd, rfl⟩;have Hd := Lib.hid hd;clear hd;go_wp2_with fail;go_ret
 exact ⟨ret_bool (by rw [Hd.out, Hr.out]), rfl⟩
theorem RdSl.take_i {w : World} {S : Nat → Prop} {A : Option Addr} {c n : Nat} {l : List Int} (h : RdSl iE w S (.slice A n c) l) {k : Nat} (hk : k ≤ l.length) : RdSl iE w S (.slice A (l.take k).length c) (l.take k) := by
 obtain ⟨A', c', hv, h1, h2, h3, h4⟩ := h;injection hv with e1 e2 e3
 subst e1 e2 e3;refine ⟨A, c, rfl, by simp; omega, h2, by simp; simp [iE] at h3 ⊢; omega, fun hne => ?_⟩;obtain ⟨b, o, hA, hS, hi⟩ := h4 (fun e => hne (by rw [e]; simp));exact ⟨b, o, hA, hS, fun i x hx => hi i x (by
  rw [List.getElem?_take] at hx;split at hx
  ·exact hx
  ·cases hx)⟩
end Go.Proofs.Ytabcjdalifhpdaa
