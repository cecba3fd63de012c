/- The walks of verify.Join, of the document's answer to it, and of the number from 0 to many - 1. No condition beside that the numbers are numbers of 64 bits. -/
import Derived.Test.YtabcjdalifhpdaaHeapA
namespace Go.Proofs.Ytabcjdalifhpdaa
open Go.RowKit
def objB (t : Int) : Bool := t == 2 || t == 3
def joinN (a b : Int) : Int := if a = b then a else if objB a && objB b then 2 else 0
def pickN (n many : Int) : Int := (if n < 0 then -(n + 1) else n) % many
set_option maxHeartbeats 400000 in
theorem picked_any (n many : Int) (h1 : -9223372036854775808 ≤ n) (h2 : n ≤ 9223372036854775807) (hm : 1 ≤ many) (hm2 : many ≤ 9223372036854775807) (w : World) :
  Calls Try.prog 6 #[.int .i64 n, .int .i64 many] w fun e w' => e = .returned (.int .i64 (pickN n many)) ∧ w = w' := by
 go_enter Try.func6, Try.ntmps6
 go_wp2
 ·have hn : n < 0 := (by assumption);go_ret
  exact ⟨ret_int (by rw [pickN, if_pos hn, ← Int.neg_tmod, Int.tmod_eq_emod_of_nonneg (by omega)]), rfl⟩
 ·have hn : 0 ≤ n := (by assumption);go_ret
  exact ⟨ret_int (by rw [pickN, if_neg (by omega)]), rfl⟩
theorem joins_agree (x y z : Int) (hx : 0 ≤ x ∧ x < 4) (hy : 0 ≤ y ∧ y < 4) (hz : 0 ≤ z ∧ z < 4) :
  joinN x y = joinN y x ∧ joinN x x = x ∧ joinN (joinN x y) z = joinN x (joinN y z) ∧ joinN (joinN x y) y = joinN x y := by
 have h : ∀ n : Int, 0 ≤ n ∧ n < 4 → n = 0 ∨ n = 1 ∨ n = 2 ∨ n = 3 := fun n _ => by omega
 rcases h x hx with rfl | rfl | rfl | rfl <;> rcases h y hy with rfl | rfl | rfl | rfl <;> rcases h z hz with rfl | rfl | rfl | rfl <;> decide
theorem pickN_lt (n many : Int) (hm : 1 ≤ many) : 0 ≤ pickN n many ∧ pickN n many < many :=
 ⟨Int.emod_nonneg _ (by omega), Int.emod_lt_of_pos _ (by omega)⟩
end Go.Proofs.Ytabcjdalifhpdaa
