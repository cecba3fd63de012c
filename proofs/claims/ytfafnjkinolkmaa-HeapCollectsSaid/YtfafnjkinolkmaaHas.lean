/- The walk of the document's has: is a number in a list? No condition beside what is read. -/
import Derived.Test.YtfafnjkinolkmaaLoc
namespace Go.Proofs.Ytfafnjkinolkmaa
open Go.RowKit

set_option maxHeartbeats 2000000 in
theorem has_is (S : Nat → Prop) (A : Option Addr) (c : Nat) (l : List Int) (n : Int) (w : World) (r : Bool) (hr : decide (n ∈ l) = r) (hl : RdSl iE w S (.slice A l.length c) l) :
    Calls Try.prog 49 #[.slice A l.length c, .int .i64 n] w fun e w' => e = .returned (.bool r) ∧ w' = w := by
  obtain ⟨-, g1, g2, g3⟩ := hl.lims
  have Hl := Lib.hid hl
  have Hr := Lib.hid hr
  clear hl hr g3
  go_enter Try.func49, Try.ntmps49
  go_wp2
  go_loopw [5] (fun i wr => ∃ k : Nat, k ≤ l.length ∧ i = .int .i64 k ∧ n ∉ l.take k ∧ wr = w) (fun i _ => l.length - (intOf i).toNat)
  case atStart => exact ⟨0, by omega, rfl, by simp, rfl⟩
  case round =>
    obtain ⟨k, hk, rfl, hni, rfl⟩ := hrel
    by_cases hlt : k < l.length
    · obtain ⟨x, hx⟩ : ∃ x, l[k]? = some x := ⟨l[k], List.getElem?_eq_getElem hlt⟩
      obtain ⟨b, o, rfl, _, _, y0⟩ := Hl.out.at_i hx
      have i1 : (0 : Int) ≤ (k : Int) := by omega
      have i2 : (k : Int) < (l.length : Int) := by omega
      have Hx := Lib.hid hx
      have Hni := Lib.hid hni
      clear hx hni
      by_cases hxn : x = n
      · subst hxn
        have hb : (x == x) = true := by simp
        have hm : x ∈ l := List.mem_of_getElem? Hx.out
        have hr2 := Hr.out
        rw [decide_eq_true hm] at hr2
        subst hr2
        clear hm
        go_wp2
        go_ret
        exact ⟨rfl, rfl⟩
      · have hb : (x == n) = false := by simpa using hxn
        go_wp2
        go_roundw
        case rel =>
          refine ⟨k + 1, by omega, by go_num, ?_, by simp⟩
          rw [List.take_add_one, Hx.out]
          intro h
          rcases List.mem_append.1 h with h | h
          · exact Hni.out h
          · simp at h; exact hxn h.symm
        case measure => simp [intOf]; omega
    · have hx : l.take k = l := List.take_of_length_le (by omega)
      rw [hx] at hni
      have hr2 := Hr.out
      rw [decide_eq_false hni] at hr2
      subst hr2
      clear hni hx
      go_wp2
      go_ret
      exact ⟨rfl, rfl⟩
end Go.Proofs.Ytfafnjkinolkmaa
