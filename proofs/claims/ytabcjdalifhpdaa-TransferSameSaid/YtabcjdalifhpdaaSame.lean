/- The walks of the statements' own comparisons: data that are the same are told to be. No condition beside what is read. The walks of heap.New and of the document's answer to it. No condition. -/
import Derived.Test.YtabcjdalifhpdaaHeapA
namespace Go.Proofs.Ytabcjdalifhpdaa
section
open Go.RowKit
theorem quiet_add {P : Program} {f : FuncId} {args : Array Value} {w : World} {a n : Nat} {v : Value}
  (h : Calls P f args (w.drewN (a + n)) fun e w' => e = .returned v ∧ ∃ m, w' = (w.drewN (a + n)).drewN m) :
  Calls P f args (w.drewN (a + n)) fun e w'' => e = .returned v ∧ ∃ m, w'' = w.drewN (a + m) :=
 h.mono fun _ _ ⟨he, m, hm⟩ => ⟨he, n + m, by rw [hm, World.drewN_drewN, Nat.add_assoc]⟩
theorem below_drewN {B : Nat} {a w : World} (h : Below B a w) (n : Nat) : Below B a (w.drewN n) := ⟨h.os, h.tape, h.output, h.size, h.block⟩
end
section
open Go.RowKit
def newM (most : Int) : Int := if 0 ≤ most ∧ most ≤ 60 then most else 0
def newE (most : Int) : Int := if 0 ≤ most ∧ most ≤ 60 then 0 else 2
set_option maxHeartbeats 400000 in
theorem new_any (most : Int) (w : World) :
  Calls Try.prog 16 #[.int .i64 most] w fun e w' => e = .returned (.tuple #[.agg #[.int .i64 (newM most), .slice none 0 0], .int .i64 (newE most)]) ∧ Below w.heap.size w w' := by
 by_cases h : 0 ≤ most ∧ most ≤ 60
 ·obtain ⟨h1, h2⟩ := h;have e1 : newM most = most := if_pos ⟨h1, h2⟩;have e2 : newE most = 0 := if_pos ⟨h1, h2⟩;rw [e1, e2];clear e1 e2;go_enter Try.func16, Try.ntmps16
  go_wp2
  exact bodyPost_ret (v := .tuple #[.agg #[.int .i64 most, .slice none 0 0], .int .i64 0]) (by simp [results, Try.results16, go_sem]) rfl ⟨rfl, (Below.refl _ _).alloc (Nat.le_refl _) _⟩
 ·have e1 : newM most = 0 := if_neg h;have e2 : newE most = 2 := if_neg h;rw [e1, e2];clear e1 e2;rcases (by omega : most < 0 ∨ (0 ≤ most ∧ 60 < most)) with h1 | h1
  all_goals
   clear h;go_enter Try.func16, Try.ntmps16
   go_wp2
   exact bodyPost_ret (v := .tuple #[.agg #[.int .i64 0, .slice none 0 0], .int .i64 2]) (by simp [results, Try.results16, go_sem]) rfl ⟨rfl, (Below.refl _ _).alloc (Nat.le_refl _) _⟩
theorem RdSl.nil {α : Type} {E : El α} {w : World} {S : Nat → Prop} : RdSl E w S (.slice none ([] : List α).length 0) [] :=
 ⟨none, 0, rfl, Nat.le_refl _, Nat.zero_le _, by simp, fun h => absurd rfl h⟩
end
end Go.Proofs.Ytabcjdalifhpdaa
