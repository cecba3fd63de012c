/- The walks of the statements' comparisons of numbers and of rows of numbers. No condition beside what is read. -/
import Derived.Test.YtfafnjkinolkmaaDoorFlowN
import Derived.Test.YtfafnjkinolkmaaDoorStB
namespace Go.Proofs.YtfafnjkinolkmaaDoor
open Go.RowKit

theorem rd_drewN {α : Type} {E : El α} {w : World} {S : Nat → Prop} {v : Value} {xs : List α} (h : RdSl E w S v xs) (hE : 0 < E.size) (n : Nat) : RdSl E (w.drewN n).drew S v xs := RdSl.keep (w := w) (w' := (w.drewN n).drew) hE (fun _ _ hs => ⟨hs, rfl⟩) h
theorem drew_drewN (w : World) (n m : Nat) : ((w.drewN n).drew).drewN m = w.drewN (n + 1 + m) := by
  rw [show (w.drewN n).drew = (w.drewN n).drewN 1 from rfl, World.drewN_drewN, World.drewN_drewN, Nat.add_assoc]
set_option maxHeartbeats 400000 in
theorem sameI_eq (S T : Nat → Prop) (A B : Option Addr) (c d : Nat) (l : List Int) (w : World) (ha : RdSl iE w S (.slice A l.length c) l) (hb : RdSl iE w T (.slice B l.length d) l) :
    Calls Tryd.prog 55 #[.slice A l.length c, .slice B l.length d] w fun e w' => e = .returned (.bool true) ∧ ∃ n, w' = w.drewN n := by
  obtain ⟨-, h1, h2, h3⟩ := ha.lims
  have Ha := Lib.hid ha
  have Hb := Lib.hid hb
  clear ha hb
  go_enter Tryd.func55, Tryd.ntmps55
  go_wp2
  go_loopw [5] (fun i wr => ∃ k : Nat, k ≤ l.length ∧ i = .int .i64 k ∧ ∃ q, wr = w.drewN q) (fun i _ => l.length - (intOf i).toNat)
  case atStart => exact ⟨0, by omega, rfl, 0, rfl⟩
  case round =>
    obtain ⟨k, hk, rfl, q, rfl⟩ := hrel
    by_cases hlt : k < l.length
    · obtain ⟨x, hx⟩ : ∃ x, l[k]? = some x := ⟨l[k], List.getElem?_eq_getElem hlt⟩
      obtain ⟨b, o, rfl, _, _, g0⟩ := Ha.out.at_i hx
      obtain ⟨b', o', rfl, _, _, k0⟩ := Hb.out.at_i hx
      have i1 : (0 : Int) ≤ (k : Int) := by omega
      have i2 : (k : Int) < (l.length : Int) := by omega
      clear hx
      go_wp2
      go_quiet (fail)
      go_wp2
      go_roundw
      case rel => exact ⟨k + 1, by omega, by go_num, _, rfl⟩
      case measure => simp [intOf]; omega
    · go_wp2
      go_ret
      exact ⟨rfl, q, rfl⟩
set_option maxRecDepth 100000 in
set_option maxHeartbeats 1000000 in
theorem sameRows_eq (S T : Nat → Prop) (A B : Option Addr) (c d : Nat) (l : List (List Int)) (w : World) (ha : RdSl liE w S (.slice A l.length c) l) (hb : RdSl liE w T (.slice B l.length d) l) :
    Calls Tryd.prog 24 #[.slice A l.length c, .slice B l.length d] w fun e w' => e = .returned (.bool true) ∧ ∃ n, w' = w.drewN n := by
  obtain ⟨-, h1, h2, h3⟩ := ha.lims
  have Ha := Lib.hid ha
  have Hb := Lib.hid hb
  clear ha hb h3
  go_enter Tryd.func24, Tryd.ntmps24
  go_wp2
  go_loopw [5] (fun i wr => ∃ k : Nat, k ≤ l.length ∧ i = .int .i64 k ∧ ∃ q, wr = w.drewN q) (fun i _ => l.length - (intOf i).toNat)
  case atStart => exact ⟨0, by omega, rfl, 0, rfl⟩
  case round =>
    obtain ⟨k, hk, rfl, q, rfl⟩ := hrel
    by_cases hlt : k < l.length
    · obtain ⟨x, hx⟩ : ∃ x, l[k]? = some x := ⟨l[k], List.getElem?_eq_getElem hlt⟩
      obtain ⟨b, o, C, e, rfl, _, _, g0, gf⟩ := RdSl.at_s (hs := by decide) Ha.out hx
      obtain ⟨b', o', C', e', rfl, _, _, k0, kf⟩ := RdSl.at_s (hs := by decide) Hb.out hx
      have Gf := Lib.hid gf
      have Kf := Lib.hid kf
      have i1 : (0 : Int) ≤ (k : Int) := by omega
      have i2 : (k : Int) < (l.length : Int) := by omega
      clear hx gf kf
      go_wp2
      refine wp_region_plan [.still [0, 1, 2, 3, 4, 5, 6, 7], .loud 8 [], .still [9]] (by kernel_rfl) (by kernel_rfl) ?_
      refine plan_still ?_
      simp only [pick, List.getElem?_toArray, List.getElem?_cons_succ, List.getElem?_cons_zero]
      repeat still_step
      refine wpStill_nil ?_
      refine plan_loud ?_
      simp only [pick, List.getElem?_toArray, List.getElem?_cons_succ, List.getElem?_cons_zero]
      go_wp2_with fail
      refine (sameI_eq _ _ _ _ _ _ x _ (rd_drewN Gf.out (by decide) _) (rd_drewN Kf.out (by decide) _)).mono ?_
      rintro en W' ⟨rfl, q2, rfl⟩
      go_wp2_with fail
      refine ⟨trivial, ?_⟩
      refine plan_still ?_
      simp only [pick, List.getElem?_toArray, List.getElem?_cons_succ, List.getElem?_cons_zero]
      repeat still_step
      refine wpStill_nil ?_
      refine plan_end (NoPanic.normal ?_)
      go_wp2
      go_roundw
      case rel => exact ⟨k + 1, by omega, by go_num, _, by first | rfl | (simp only [drew_drewN, World.drewN_drewN]; rfl)⟩
      case measure => simp [intOf]; omega
    · go_wp2
      go_ret
      exact ⟨rfl, q, rfl⟩
end Go.Proofs.YtfafnjkinolkmaaDoor
