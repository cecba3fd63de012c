/- The walk of the statements' own comparison of programs: programs that are the same are told to be. No condition beside what is read. -/
import Derived.Test.YtfafnjkinolkmaaDoorSame
namespace Go.Proofs.YtfafnjkinolkmaaDoor
open Go.RowKit

set_option maxRecDepth 100000 in
set_option maxHeartbeats 2000000 in
theorem sameProgram_eq (S T : Nat → Prop) (A B : Option Addr) (c d : Nat) (ps : List (List Ins)) (w : World) (ha : RdSl (slE insE (by decide)) w S (.slice A ps.length c) ps) (hb : RdSl (slE insE (by decide)) w T (.slice B ps.length d) ps) :
    Calls Tryd.prog 21 #[.agg #[.slice A ps.length c], .agg #[.slice B ps.length d]] w fun e w' => e = .returned (.bool true) ∧ Below w.heap.size w w' := by
  obtain ⟨-, h1, h2, h3⟩ := ha.lims
  have Ha := Lib.hid ha
  have Hb := Lib.hid hb
  clear ha hb
  have hB : Below w.heap.size w ((w.alloc (.cells #[.slice A ps.length c] 24)).alloc (.cells #[.slice B ps.length d] 24)) :=
    ((Below.refl _ _).alloc (Nat.le_refl _) _).alloc (by simp) _
  go_enter Tryd.func21, Tryd.ntmps21
  go_wp2
  go_loopw [5, 6] (fun i _ wr => ∃ k : Nat, k ≤ ps.length ∧ i = .int .i64 k ∧ ∃ q, wr = ((w.alloc (.cells #[.slice A ps.length c] 24)).alloc (.cells #[.slice B ps.length d] 24)).drewN q) (fun i _ _ => ps.length - (intOf i).toNat)
  case atStart => exact ⟨0, by omega, rfl, 0, rfl⟩
  case round =>
    obtain ⟨k, hk, rfl, q, rfl⟩ := hrel
    by_cases hlt : k < ps.length
    · obtain ⟨x, hx⟩ : ∃ x, ps[k]? = some x := ⟨ps[k], List.getElem?_eq_getElem hlt⟩
      obtain ⟨b, o, C, e, rfl, _, hb1, g0, gf⟩ := Ha.out.at_s hx
      obtain ⟨b', o', C', e', rfl, _, hb2, k0, kf⟩ := Hb.out.at_s hx
      obtain ⟨-, f1, f2, f3⟩ := gf.lims
      have Gf := Lib.hid gf
      have Kf := Lib.hid kf
      have i1 : (0 : Int) ≤ (k : Int) := by omega
      have i2 : (k : Int) < (ps.length : Int) := by omega
      have i3 : ((x.length : Int) != (x.length : Int)) = false := by simp
      clear hx gf kf
      go_wp2
      go_quiet (fail)
      go_wp2
      go_loopw [6] (fun i w2 => ∃ j : Nat, j ≤ x.length ∧ i = .int .i64 j ∧ ∃ q, w2 = ((w.alloc (.cells #[.slice (some ⟨b, o, none⟩) ps.length c] 24)).alloc (.cells #[.slice (some ⟨b', o', none⟩) ps.length d] 24)).drewN q) (fun i _ => x.length - (intOf i).toNat)
      case atStart => exact ⟨0, by omega, rfl, _, World.drewN_drewN _ _ _⟩
      case round =>
        obtain ⟨j, hj, rfl, q2, rfl⟩ := hrel
        by_cases hlt2 : j < x.length
        · obtain ⟨y, hy⟩ : ∃ y, x[j]? = some y := ⟨x[j], List.getElem?_eq_getElem hlt2⟩
          obtain ⟨b2, o2, rfl, _, hb3, y0, y1, y2, y3⟩ := Gf.out.at_n hy
          obtain ⟨b3, o3, rfl, _, hb4, z0, z1, z2, z3⟩ := Kf.out.at_n hy
          have j1 : (0 : Int) ≤ (j : Int) := by omega
          have j2 : (j : Int) < (x.length : Int) := by omega
          clear hy
          go_wp2
          go_quiet (fail)
          go_wp2
          go_roundw
          case rel => exact ⟨j + 1, by omega, by go_num, _, rfl⟩
          case measure => simp [intOf]; omega
        · go_wp2
          go_roundw
          case rel => exact ⟨k + 1, by omega, by go_num, _, rfl⟩
          case measure => simp [intOf]; omega
    · go_wp2
      go_ret
      exact ⟨rfl, below_drewN hB q⟩

end Go.Proofs.YtfafnjkinolkmaaDoor
