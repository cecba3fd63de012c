/- The walks of slices.Equal and slices.EqualFunc, of lists that are the same. No condition beside what is read. -/
import Derived.Test.YtabcjdalifhpdaaDoorLoc
namespace Go.Proofs.YtabcjdalifhpdaaDoor
open Go.RowKit

set_option maxHeartbeats 2000000 in
theorem equalV_eq (S T : Nat → Prop) (A B : Option Addr) (c d : Nat) (l : List V) (w : World) (ha : RdSl vE w S (.slice A l.length c) l) (hb : RdSl vE w T (.slice B l.length d) l) :
    Calls Tryd.prog 86 #[.slice A l.length c, .slice B l.length d] w fun e w' => e = .returned (.bool true) ∧ ∃ n, w' = w.drewN n := by
  obtain ⟨-, h1, h2, h3⟩ := ha.lims
  have Ha := Lib.hid ha
  have Hb := Lib.hid hb
  clear ha hb
  go_enter Tryd.func86, Tryd.ntmps86
  go_wp2
  go_loopw [13] (fun i wr => ∃ k : Nat, k ≤ l.length ∧ i = .int .i64 k ∧ ∃ q, wr = w.drewN q) (fun i _ => l.length - (intOf i).toNat)
  case atStart => exact ⟨0, by omega, rfl, 0, rfl⟩
  case round =>
    obtain ⟨k, hk, rfl, q, rfl⟩ := hrel
    by_cases hlt : k < l.length
    · obtain ⟨x, hx⟩ : ∃ x, l[k]? = some x := ⟨l[k], List.getElem?_eq_getElem hlt⟩
      obtain ⟨b, o, rfl, _, _, g0, g1⟩ := Ha.out.at_v hx
      obtain ⟨b', o', rfl, _, _, k0, k1⟩ := Hb.out.at_v hx
      have i1 : (0 : Int) ≤ (k : Int) := by omega
      have i2 : (k : Int) < (l.length : Int) := by omega
      clear hx
      go_wp2
      go_quiet (fail)
      go_wp2
      go_roundw
      case rel => exact ⟨k + 1, by omega, by go_num, _, rfl⟩
      case measure => simp [intOf]; omega
    · go_wp2
      go_ret
      exact ⟨rfl, q, rfl⟩
set_option maxHeartbeats 2000000 in
theorem equalN_eq (S T : Nat → Prop) (A B : Option Addr) (c d : Nat) (l : List Ins) (w : World) (ha : RdSl insE w S (.slice A l.length c) l) (hb : RdSl insE w T (.slice B l.length d) l) :
    Calls Tryd.prog 41 #[.slice A l.length c, .slice B l.length d] w fun e w' => e = .returned (.bool true) ∧ ∃ n, w' = w.drewN n := by
  obtain ⟨-, h1, h2, h3⟩ := ha.lims
  have Ha := Lib.hid ha
  have Hb := Lib.hid hb
  clear ha hb
  go_enter Tryd.func41, Tryd.ntmps41
  go_wp2
  go_loopw [13] (fun i wr => ∃ k : Nat, k ≤ l.length ∧ i = .int .i64 k ∧ ∃ q, wr = w.drewN q) (fun i _ => l.length - (intOf i).toNat)
  case atStart => exact ⟨0, by omega, rfl, 0, rfl⟩
  case round =>
    obtain ⟨k, hk, rfl, q, rfl⟩ := hrel
    by_cases hlt : k < l.length
    · obtain ⟨x, hx⟩ : ∃ x, l[k]? = some x := ⟨l[k], List.getElem?_eq_getElem hlt⟩
      obtain ⟨b, o, rfl, _, _, g0, g1, g2, g3⟩ := Ha.out.at_n hx
      obtain ⟨b', o', rfl, _, _, k0, k1, k2, k3⟩ := Hb.out.at_n hx
      have i1 : (0 : Int) ≤ (k : Int) := by omega
      have i2 : (k : Int) < (l.length : Int) := by omega
      clear hx
      go_wp2
      go_quiet (fail)
      go_wp2
      go_roundw
      case rel => exact ⟨k + 1, by omega, by go_num, _, rfl⟩
      case measure => simp [intOf]; omega
    · go_wp2
      go_ret
      exact ⟨rfl, q, rfl⟩
set_option maxHeartbeats 2000000 in
theorem equalI_eq (S T : Nat → Prop) (A B : Option Addr) (c d : Nat) (l : List Int) (w : World) (ha : RdSl iE w S (.slice A l.length c) l) (hb : RdSl iE w T (.slice B l.length d) l) :
    Calls Tryd.prog 67 #[.slice A l.length c, .slice B l.length d] w fun e w' => e = .returned (.bool true) ∧ ∃ n, w' = w.drewN n := by
  obtain ⟨-, h1, h2, h3⟩ := ha.lims
  have Ha := Lib.hid ha
  have Hb := Lib.hid hb
  clear ha hb
  go_enter Tryd.func67, Tryd.ntmps67
  go_wp2
  go_loopw [13] (fun i wr => ∃ k : Nat, k ≤ l.length ∧ i = .int .i64 k ∧ ∃ q, wr = w.drewN q) (fun i _ => l.length - (intOf i).toNat)
  case atStart => exact ⟨0, by omega, rfl, 0, rfl⟩
  case round =>
    obtain ⟨k, hk, rfl, q, rfl⟩ := hrel
    by_cases hlt : k < l.length
    · obtain ⟨x, hx⟩ : ∃ x, l[k]? = some x := ⟨l[k], List.getElem?_eq_getElem hlt⟩
      obtain ⟨b, o, rfl, _, _, g0⟩ := Ha.out.at_i hx
      obtain ⟨b', o', rfl, _, _, k0⟩ := Hb.out.at_i hx
      have i1 : (0 : Int) ≤ (k : Int) := by omega
      have i2 : (k : Int) < (l.length : Int) := by omega
      clear hx
      go_wp2
      go_quiet (fail)
      go_wp2
      go_roundw
      case rel => exact ⟨k + 1, by omega, by go_num, _, rfl⟩
      case measure => simp [intOf]; omega
    · go_wp2
      go_ret
      exact ⟨rfl, q, rfl⟩
set_option maxHeartbeats 2000000 in
theorem equalT_eq (S T : Nat → Prop) (A B : Option Addr) (c d : Nat) (l : List Td) (w : World) (ha : RdSl tdE w S (.slice A l.length c) l) (hb : RdSl tdE w T (.slice B l.length d) l) :
    Calls Tryd.prog 43 #[.slice A l.length c, .slice B l.length d] w fun e w' => e = .returned (.bool true) ∧ ∃ n, w' = w.drewN n := by
  obtain ⟨-, h1, h2, h3⟩ := ha.lims
  have Ha := Lib.hid ha
  have Hb := Lib.hid hb
  clear ha hb
  go_enter Tryd.func43, Tryd.ntmps43
  go_wp2
  go_loopw [13] (fun i wr => ∃ k : Nat, k ≤ l.length ∧ i = .int .i64 k ∧ ∃ q, wr = w.drewN q) (fun i _ => l.length - (intOf i).toNat)
  case atStart => exact ⟨0, by omega, rfl, 0, rfl⟩
  case round =>
    obtain ⟨k, hk, rfl, q, rfl⟩ := hrel
    by_cases hlt : k < l.length
    · obtain ⟨x, hx⟩ : ∃ x, l[k]? = some x := ⟨l[k], List.getElem?_eq_getElem hlt⟩
      obtain ⟨b, o, rfl, _, _, g0, g1⟩ := Ha.out.at_t hx
      obtain ⟨b', o', rfl, _, _, k0, k1⟩ := Hb.out.at_t hx
      have i1 : (0 : Int) ≤ (k : Int) := by omega
      have i2 : (k : Int) < (l.length : Int) := by omega
      clear hx
      go_wp2
      go_quiet (fail)
      go_wp2
      go_roundw
      case rel => exact ⟨k + 1, by omega, by go_num, _, rfl⟩
      case measure => simp [intOf]; omega
    · go_wp2
      go_ret
      exact ⟨rfl, q, rfl⟩
set_option maxHeartbeats 2000000 in
theorem equalP_eq (S T : Nat → Prop) (A B : Option Addr) (c d : Nat) (l : List (List Ins)) (w : World) (ha : RdSl (slE insE (by decide)) w S (.slice A l.length c) l) (hb : RdSl (slE insE (by decide)) w T (.slice B l.length d) l) :
    Calls Tryd.prog 40 #[.slice A l.length c, .slice B l.length d, .func (.func 41) #[] #[]] w fun e w' => e = .returned (.bool true) ∧ ∃ n, w' = w.drewN n := by
  obtain ⟨-, h1, h2, h3⟩ := ha.lims
  have Ha := Lib.hid ha
  have Hb := Lib.hid hb
  clear ha hb
  go_enter Tryd.func40, Tryd.ntmps40
  go_wp2
  go_loopw [17] (fun i wr => ∃ k : Nat, k ≤ l.length ∧ i = .int .i64 k ∧ ∃ q, wr = w.drewN q) (fun i _ => l.length - (intOf i).toNat)
  case atStart => exact ⟨0, by omega, rfl, 0, rfl⟩
  case round =>
    obtain ⟨k, hk, rfl, q, rfl⟩ := hrel
    by_cases hlt : k < l.length
    · obtain ⟨x, hx⟩ : ∃ x, l[k]? = some x := ⟨l[k], List.getElem?_eq_getElem hlt⟩
      obtain ⟨b, o, C, e, rfl, _, _, g0, gf⟩ := Ha.out.at_s hx
      obtain ⟨b', o', C', e', rfl, _, _, k0, kf⟩ := Hb.out.at_s hx
      have i1 : (0 : Int) ≤ (k : Int) := by omega
      have i2 : (k : Int) < (l.length : Int) := by omega
      have G := Lib.hid (equalN_eq _ _ _ _ _ _ x (w.drewN q) (gf.keep (by decide) (fun b hb hS => ⟨hS, rfl⟩)) (kf.keep (by decide) (fun b hb hS => ⟨hS, rfl⟩)))
      clear hx gf kf
      go_wp2_with fail
      refine G.out.mono ?_
      rintro en W' ⟨rfl, q', rfl⟩
      go_wp2
      go_roundw
      case rel => exact ⟨k + 1, by omega, by go_num, q + q', by simp⟩
      case measure => simp [intOf]; omega
    · go_wp2
      go_ret
      exact ⟨rfl, q, rfl⟩
end Go.Proofs.YtabcjdalifhpdaaDoor
