/- The walks of the document's words on operators: what one has, and the bounds of N. Condition: numbers small enough for the sums. -/
import Derived.Test.YtabcjdalifhpdaaDoorSpecC
import Derived.Test.YtabcjdalifhpdaaDoorHeapA
import Derived.Test.YtabcjdalifhpdaaDoorLoc
import Derived.Deep.CutRange
import Derived.Deep.Light
namespace Go.Proofs.YtabcjdalifhpdaaDoor
open Go.RowKit

theorem in_at (n l h : Int) (b : Bool) (hb : Hid ((decide (l ≤ n) && decide (n ≤ h)) = b)) (w : World) :
    Calls Tryd.prog 72 #[.int .i64 n, .int .i64 l, .int .i64 h] w fun e w' => e = .returned (.bool b) ∧ w = w' :=
  (in_any n l h w).mono fun _ _ ⟨he, h⟩ => ⟨by rw [he, hb.out], h⟩
set_option maxHeartbeats 1000000 in
theorem hasA_any (op : Int) (w : World) : Calls Tryd.prog 124 #[.int .i64 op] w fun e w' => e = .returned (.bool (aB op)) ∧ w = w' := by
  obtain ⟨x, hx⟩ : ∃ x, (op != 0) = x := ⟨_, rfl⟩
  obtain ⟨y, hy⟩ : ∃ x, (op != 6) = x := ⟨_, rfl⟩
  obtain ⟨z, hz⟩ : ∃ x, (op != 19) = x := ⟨_, rfl⟩
  have hA : aB op = (x && y && z) := by unfold aB; rw [hx, hy, hz]
  rw [hA]
  clear hA
  cases x <;> cases y <;> cases z
  all_goals
    go_enter Tryd.func124, Tryd.ntmps124
    go_wp2_with fail
    go_ret
    exact ⟨rfl, rfl⟩
set_option maxHeartbeats 1000000 in
theorem hasB_any (op : Int) (w : World) : Calls Tryd.prog 125 #[.int .i64 op] w fun e w' => e = .returned (.bool (bB op)) ∧ w = w' := by
  obtain ⟨x, hx⟩ : ∃ x, (decide (2 ≤ op) && decide (op ≤ 4)) = x := ⟨_, rfl⟩
  obtain ⟨y, hy⟩ : ∃ x, (decide (8 ≤ op) && decide (op ≤ 14)) = x := ⟨_, rfl⟩
  obtain ⟨z, hz⟩ : ∃ x, (op == 17) = x := ⟨_, rfl⟩
  have hA : bB op = (x || y || z) := by unfold bB; rw [hx, hy, hz]
  rw [hA]
  have G1 := Lib.hid (fun W => in_at op 2 4 x (Lib.hid hx) W)
  have G2 := Lib.hid (fun W => in_at op 8 14 y (Lib.hid hy) W)
  clear hA hx hy
  cases x <;> cases y <;> cases z
  all_goals
    go_enter Tryd.func125, Tryd.ntmps125
    go_wp2_with fail
    refine (G1.out _).mono ?_
    rintro e w' ⟨rfl, rfl⟩
    go_wp2_with (refine (G2.out _).mono ?_; rintro e w' ⟨rfl, rfl⟩)
    go_ret
    exact ⟨rfl, rfl⟩
set_option maxHeartbeats 4000000 in
theorem nMay_any (i : Ins) (at_ many kinds : Int) (ha : 0 ≤ at_ ∧ at_ ≤ 60) (hm : 0 ≤ many ∧ many ≤ 60) (hk : 0 ≤ kinds ∧ kinds ≤ 60) (w : World) :
    Calls Tryd.prog 123 #[.agg #[.int .i64 i.op, .int .i64 i.a, .int .i64 i.b, .int .i64 i.n], .int .i64 at_, .int .i64 many, .int .i64 kinds] w
      fun e w' => e = .returned (.bool (nMayB i at_ many kinds)) ∧ Below w.heap.size w w' := by
  obtain ⟨op, a, b, n⟩ := i
  dsimp only
  have hB : Below w.heap.size w (w.alloc (.cells #[.int .i64 op, .int .i64 a, .int .i64 b, .int .i64 n] 42)) := (Below.refl _ _).alloc (Nat.le_refl _) _
  have HL := Lib.hid ((Locs.nil (w := w)).new (cs := #[.int .i64 op, .int .i64 a, .int .i64 b, .int .i64 n]) (t := 42) rfl)
  go_enter Tryd.func123, Tryd.ntmps123
  go_upto_region 1 with fail
  generalize w.alloc (.cells #[.int .i64 op, .int .i64 a, .int .i64 b, .int .i64 n] 42) = W at *
  obtain ⟨r4, -, -⟩ := HL.out.rules
  dsimp only at r4
  go_wp2_with (refine (in_any _ _ _ _).mono ?_; rintro e w' ⟨rfl, rfl⟩)
  all_goals
    go_ret
    refine ⟨ret_bool ?_, hB⟩
    go_light
    simp only [nMayB]
    simp only [beq_iff_eq, beq_eq_false_iff_ne, ne_eq] at *
    repeat' split
    all_goals (first | rfl | (exfalso; omega) | (simp_all; done) | (simp_all; omega))
end Go.Proofs.YtabcjdalifhpdaaDoor
