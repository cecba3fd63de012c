/- The walks of verify.Join, of the document's answer to it, and of the number from 0 to many - 1. No condition beside that the numbers are numbers of 64 bits. -/
import Derived.Test.YtabcjdalifhpdaaDoorHeapA
namespace Go.Proofs.YtabcjdalifhpdaaDoor
open Go.RowKit
def objB (t : Int) : Bool := t == 2 || t == 3
def joinN (a b : Int) : Int := if a = b then a else if objB a && objB b then 2 else 0
def pickN (n many : Int) : Int := (if n < 0 then -(n + 1) else n) % many
set_option maxHeartbeats 400000 in
theorem object_any (t : Int) (w : World) : Calls Tryd.prog 69 #[.int .i64 t] w fun e w' => e = .returned (.bool (objB t)) ∧ w = w' := by
 go_enter Tryd.func69, Tryd.ntmps69
 go_wp2
 all_goals
  go_ret
  exact ⟨ret_bool (by simp_all [objB]), rfl⟩
set_option maxHeartbeats 400000 in
theorem isObject_any (t : Int) (w : World) : Calls Tryd.prog 130 #[.int .i64 t] w fun e w' => e = .returned (.bool (objB t)) ∧ w = w' := by
 go_enter Tryd.func130, Tryd.ntmps130
 go_wp2_with (refine (in_any _ _ _ _).mono ?_; rintro e w' ⟨rfl, rfl⟩)
 go_ret
 refine ⟨ret_bool ?_, rfl⟩;rw [Bool.eq_iff_iff];simp [objB]
 omega
set_option maxHeartbeats 1000000 in
theorem join_any (a b : Int) (w : World) : Calls Tryd.prog 31 #[.int .i64 a, .int .i64 b] w fun e w' => e = .returned (.int .i64 (joinN a b)) ∧ w = w' := by
 by_cases h : a = b
 ·subst h;go_enter Tryd.func31, Tryd.ntmps31
  go_wp2
  go_ret
  exact ⟨ret_int (by simp [joinN]), rfl⟩
 ·have hb : (a == b) = false := (by simpa using h);have Hh := Lib.hid h;clear h;go_enter Tryd.func31, Tryd.ntmps31
  go_wp2_with (refine (object_any _ _).mono ?_; rintro e w' ⟨rfl, rfl⟩)
  all_goals
   go_ret
   exact ⟨ret_int (by simp_all [joinN, Hh.out]), rfl⟩
set_option maxHeartbeats 1000000 in
theorem joinOf_any (a b : Int) (w : World) : Calls Tryd.prog 128 #[.int .i64 a, .int .i64 b] w fun e w' => e = .returned (.int .i64 (joinN a b)) ∧ w = w' := by
 by_cases h : a = b
 ·subst h;go_enter Tryd.func128, Tryd.ntmps128
  go_wp2
  go_ret
  exact ⟨ret_int (by simp [joinN]), rfl⟩
 ·have hb : (a == b) = false := (by simpa using h);have Hh := Lib.hid h;clear h;go_enter Tryd.func128, Tryd.ntmps128
  go_wp2_with (refine (isObject_any _ _).mono ?_; rintro e w' ⟨rfl, rfl⟩)
  all_goals
   go_ret
   exact ⟨ret_int (by simp_all [joinN, Hh.out]), rfl⟩
set_option maxHeartbeats 400000 in
theorem picked_any (n many : Int) (h1 : -9223372036854775808 ≤ n) (h2 : n ≤ 9223372036854775807) (hm : 1 ≤ many) (hm2 : many ≤ 9223372036854775807) (w : World) :
  Calls Tryd.prog 30 #[.int .i64 n, .int .i64 many] w fun e w' => e = .returned (.int .i64 (pickN n many)) ∧ w = w' := by
 go_enter Tryd.func30, Tryd.ntmps30
 go_wp2
 ·have hn : n < 0 := (by assumption);go_ret
  exact ⟨ret_int (by rw [pickN, if_pos hn, ← Int.neg_tmod, Int.tmod_eq_emod_of_nonneg (by omega)]), rfl⟩
 ·have hn : 0 ≤ n := (by assumption);go_ret
  exact ⟨ret_int (by rw [pickN, if_neg (by omega)]), rfl⟩
theorem joins_agree (x y z : Int) (hx : 0 ≤ x ∧ x < 4) (hy : 0 ≤ y ∧ y < 4) (hz : 0 ≤ z ∧ z < 4) :
  joinN x y = joinN y x ∧ joinN x x = x ∧ joinN (joinN x y) z = joinN x (joinN y z) ∧ joinN (joinN x y) y = joinN x y := by
 have h : ∀ n : Int, 0 ≤ n ∧ n < 4 → n = 0 ∨ n = 1 ∨ n = 2 ∨ n = 3 := fun n _ => by omega
 rcases h x hx with rfl | rfl | rfl | rfl <;> rcases h y hy with rfl | rfl | rfl | rfl <;> rcases h z hz with rfl | rfl | rfl | rfl <;> decide
theorem pickN_lt (n many : Int) (hm : 1 ≤ many) : 0 ≤ pickN n many ∧ pickN n many < many :=
 ⟨Int.emod_nonneg _ (by omega), Int.emod_lt_of_pos _ (by omega)⟩
end Go.Proofs.YtabcjdalifhpdaaDoor
