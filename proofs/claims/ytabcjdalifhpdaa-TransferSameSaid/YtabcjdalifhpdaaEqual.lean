/- The walks of slices.Equal and slices.EqualFunc, of lists that are the same. No condition beside what is read. -/
import Derived.Test.YtabcjdalifhpdaaLoc
namespace Go.Proofs.Ytabcjdalifhpdaa
open Go.RowKit
set_option maxHeartbeats 2000000 in
theorem equalV_eq (S T : Nat → Prop) (A B : Option Addr) (c d : Nat) (l : List V) (w : World) (ha : RdSl vE w S (.slice A l.length c) l) (hb : RdSl vE w T (.slice B l.length d) l) :
  Calls Try.prog 15 #[.slice A l.length c, .slice B l.length d] w fun e w' => e = .returned (.bool true) ∧ ∃ n, w' = w.drewN n := by
 obtain ⟨-, h1, h2, h3⟩ := ha.lims;have Ha := Lib.hid ha;have Hb := Lib.hid hb;clear ha hb;go_enter Try.func15, Try.ntmps15
 go_wp2
 go_loopw [13] (fun i wr => ∃ k : Nat, k ≤ l.length ∧ i = .int .i64 k ∧ ∃ q, wr = w.drewN q) (fun i _ => l.length - (intOf i).toNat)
 case atStart => exact ⟨0, by omega, rfl, 0, rfl⟩
 case round =>
  obtain ⟨k, hk, rfl, q, rfl⟩ := hrel;by_cases hlt : k < l.length
  ·obtain ⟨x, hx⟩ : ∃ x, l[k]? = some x := ⟨l[k], List.getElem?_eq_getElem hlt⟩;obtain ⟨b, o, rfl, _, _, g0, g1⟩ := Ha.out.at_v hx;obtain ⟨b', o', rfl, _, _, k0, k1⟩ := Hb.out.at_v hx;have i1 : (0 : Int) ≤ (k : Int) := (by omega);have i2 : (k : Int) < (l.length : Int) := (by omega);clear hx;go_wp2
   go_quiet (fail)
   go_wp2
   go_roundw
   case rel => exact ⟨k + 1, by omega, by go_num, _, rfl⟩
   case measure => simp [intOf]; omega
  ·go_wp2
   go_ret
   exact ⟨rfl, q, rfl⟩
set_option maxHeartbeats 2000000 in
theorem equalI_eq (S T : Nat → Prop) (A B : Option Addr) (c d : Nat) (l : List Int) (w : World) (ha : RdSl iE w S (.slice A l.length c) l) (hb : RdSl iE w T (.slice B l.length d) l) :
  Calls Try.prog 9 #[.slice A l.length c, .slice B l.length d] w fun e w' => e = .returned (.bool true) ∧ ∃ n, w' = w.drewN n := by
 obtain ⟨-, h1, h2, h3⟩ := ha.lims;have Ha := Lib.hid ha;have Hb := Lib.hid hb;clear ha hb;go_enter Try.func9, Try.ntmps9
 go_wp2
 go_loopw [13] (fun i wr => ∃ k : Nat, k ≤ l.length ∧ i = .int .i64 k ∧ ∃ q, wr = w.drewN q) (fun i _ => l.length - (intOf i).toNat)
 case atStart => exact ⟨0, by omega, rfl, 0, rfl⟩
 case round =>
  obtain ⟨k, hk, rfl, q, rfl⟩ := hrel;by_cases hlt : k < l.length
  ·obtain ⟨x, hx⟩ : ∃ x, l[k]? = some x := ⟨l[k], List.getElem?_eq_getElem hlt⟩;obtain ⟨b, o, rfl, _, _, g0⟩ := Ha.out.at_i hx;obtain ⟨b', o', rfl, _, _, k0⟩ := Hb.out.at_i hx;have i1 : (0 : Int) ≤ (k : Int) := (by omega);have i2 : (k : Int) < (l.length : Int) := (by omega);clear hx;go_wp2
   go_quiet (fail)
   go_wp2
   go_roundw
   case rel => exact ⟨k + 1, by omega, by go_num, _, rfl⟩
   case measure => simp [intOf]; omega
  ·go_wp2
   go_ret
   exact ⟨rfl, q, rfl⟩
end Go.Proofs.Ytabcjdalifhpdaa
