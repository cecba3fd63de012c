/- The walk of the statements' heapTells: what is made is there. No condition. -/
import Derived.Test.YtfafnjkinolkmaaAlloc
import Derived.Test.YtfafnjkinolkmaaNew
namespace Go.Proofs.Ytfafnjkinolkmaa
open Go.RowKit

set_option maxHeartbeats 2000000 in
theorem heapTells_any (w : World) : Calls Try.prog 20 #[] w fun e w' => e = .returned (.bool true) ∧ Below w.heap.size w w' := by
  have G1 := Lib.hid (new_any 10)
  have n1 : newM 10 = 10 := rfl
  have n2 : newE 10 = 0 := rfl
  rw [n1, n2] at G1
  have a1 : allocE ⟨10, []⟩ 1 = 0 := rfl
  have a2 : allocH ⟨10, []⟩ 1 = ⟨10, [zeroOb 1]⟩ := rfl
  have a3 : allocV ⟨10, []⟩ 1 = ⟨2, 0⟩ := rfl
  have G2 := Lib.hid (fun W => alloc_any 10 (fun _ => True) none 0 [] 1 W RdSl.nil)
  unfold Alloced at G2
  rw [a1, a2, a3] at G2
  unfold RdH at G2
  dsimp only at G2
  clear n1 n2 a1 a2 a3
  go_enter Try.func20, Try.ntmps20
  go_wp2_with fail
  refine (G1.out _).mono ?_
  rintro e w1 ⟨rfl, hb1⟩
  have hB1 := hb1.alloc hb1.size (.cells #[.int .i64 10, .slice none 0 0] 26)
  go_wp2_with fail
  refine (G2.out _).mono ?_
  rintro e w2 ⟨v2, rfl, ⟨A2, c2, rfl, hr2⟩, hb2⟩
  have hB2 := below_after hB1 hb2
  have hB3 := (hB2.alloc hB2.size (.cells #[.int .i64 10, .slice A2 1 c2] 26)).alloc (by have := hB2.size; simp; omega) (.cells #[.int .i64 2, .int .i64 0] 31)
  go_wp2_with fail
  go_ret
  exact ⟨rfl, hB3⟩
end Go.Proofs.Ytfafnjkinolkmaa
