/- The walk of actor.check: may an act be done? No condition. -/
import Derived.Test.YtabcjdalifhpdaaDoorActP
import Derived.Test.YtabcjdalifhpdaaDoorStA
namespace Go.Proofs.YtabcjdalifhpdaaDoor
open Go.RowKit
set_option maxRecDepth 100000 in
set_option maxHeartbeats 4000000 in
theorem actCheck_any (k ac n m many : Int) (w : World) : Calls Tryd.prog 58 #[.agg #[.int .i64 k, .int .i64 ac, .int .i64 n, .int .i64 m], .int .i64 many] w fun e w' => e = .returned (.int .i64 (deedF ⟨k, ac, n, m⟩)) ∧ Below w.heap.size w w' := by
 by_cases h0 : k < 1
 ·have hd : deedF ⟨k, ac, n, m⟩ = 3 := by
   unfold deedF;dsimp only;rw [if_pos (by omega)]
  rw [hd];clear hd;have T0 : St w.heap.size w ((w.alloc (.cells #[.int .i64 k, .int .i64 ac, .int .i64 n, .int .i64 m] 38))) [.blk w.heap.size #[.int .i64 k, .int .i64 ac, .int .i64 n, .int .i64 m] 38] := ((St.start w (Nat.le_refl _)).new' #[.int .i64 k, .int .i64 ac, .int .i64 n, .int .i64 m] 38 (w.heap.size) (by simp)).1;have HT := Lib.hid T0;have hz : w.heap.size + 1 ≤ (w.alloc (.cells #[.int .i64 k, .int .i64 ac, .int .i64 n, .int .i64 m] 38)).heap.size := (by simp);clear T0;go_enter Tryd.func58, Tryd.ntmps58
  go_upto_region 1 with fail;generalize (w.alloc (.cells #[.int .i64 k, .int .i64 ac, .int .i64 n, .int .i64 m] 38)) = W1 at *;have h_ := HT.rz 1;go_wp2_with fail;go_ret
  exact ⟨rfl, HT.out.below⟩
 ·by_cases h1 : k > 3
  ·have hd : deedF ⟨k, ac, n, m⟩ = 3 := by
    unfold deedF;dsimp only;rw [if_pos (by omega)]
   rw [hd];clear hd;have T0 : St w.heap.size w ((w.alloc (.cells #[.int .i64 k, .int .i64 ac, .int .i64 n, .int .i64 m] 38))) [.blk w.heap.size #[.int .i64 k, .int .i64 ac, .int .i64 n, .int .i64 m] 38] := ((St.start w (Nat.le_refl _)).new' #[.int .i64 k, .int .i64 ac, .int .i64 n, .int .i64 m] 38 (w.heap.size) (by simp)).1;have HT := Lib.hid T0;have hz : w.heap.size + 1 ≤ (w.alloc (.cells #[.int .i64 k, .int .i64 ac, .int .i64 n, .int .i64 m] 38)).heap.size := (by simp);clear T0;go_enter Tryd.func58, Tryd.ntmps58
   go_upto_region 1 with fail;generalize (w.alloc (.cells #[.int .i64 k, .int .i64 ac, .int .i64 n, .int .i64 m] 38)) = W2 at *;have h_ := HT.rz 1;go_wp2_with fail;go_ret
   exact ⟨rfl, HT.out.below⟩
  ·by_cases h2 : ac < 0
   ·have hd : deedF ⟨k, ac, n, m⟩ = 2 := by
     unfold deedF;dsimp only;rw [if_neg (by omega), if_pos (by omega)]
    rw [hd];clear hd;have T0 : St w.heap.size w ((w.alloc (.cells #[.int .i64 k, .int .i64 ac, .int .i64 n, .int .i64 m] 38))) [.blk w.heap.size #[.int .i64 k, .int .i64 ac, .int .i64 n, .int .i64 m] 38] := ((St.start w (Nat.le_refl _)).new' #[.int .i64 k, .int .i64 ac, .int .i64 n, .int .i64 m] 38 (w.heap.size) (by simp)).1;have HT := Lib.hid T0;have hz : w.heap.size + 1 ≤ (w.alloc (.cells #[.int .i64 k, .int .i64 ac, .int .i64 n, .int .i64 m] 38)).heap.size := (by simp);clear T0;go_enter Tryd.func58, Tryd.ntmps58
    go_upto_region 1 with fail;generalize (w.alloc (.cells #[.int .i64 k, .int .i64 ac, .int .i64 n, .int .i64 m] 38)) = W3 at *;have h_ := HT.rz 1;go_wp2_with fail;go_ret
    exact ⟨rfl, HT.out.below⟩
   ·by_cases h3 : ac ≥ 8
    ·have hd : deedF ⟨k, ac, n, m⟩ = 2 := by
      unfold deedF;dsimp only;rw [if_neg (by omega), if_pos (by omega)]
     rw [hd];clear hd;have T0 : St w.heap.size w ((w.alloc (.cells #[.int .i64 k, .int .i64 ac, .int .i64 n, .int .i64 m] 38))) [.blk w.heap.size #[.int .i64 k, .int .i64 ac, .int .i64 n, .int .i64 m] 38] := ((St.start w (Nat.le_refl _)).new' #[.int .i64 k, .int .i64 ac, .int .i64 n, .int .i64 m] 38 (w.heap.size) (by simp)).1;have HT := Lib.hid T0;have hz : w.heap.size + 1 ≤ (w.alloc (.cells #[.int .i64 k, .int .i64 ac, .int .i64 n, .int .i64 m] 38)).heap.size := (by simp);clear T0;go_enter Tryd.func58, Tryd.ntmps58
     go_upto_region 1 with fail;generalize (w.alloc (.cells #[.int .i64 k, .int .i64 ac, .int .i64 n, .int .i64 m] 38)) = W4 at *;have h_ := HT.rz 1;go_wp2_with fail;go_ret
     exact ⟨rfl, HT.out.below⟩
    ·by_cases h4 : n < -1099511627776
     ·have hd : deedF ⟨k, ac, n, m⟩ = 2 := by
       unfold deedF;dsimp only;rw [if_neg (by omega), if_pos (by omega)]
      rw [hd];clear hd;have T0 : St w.heap.size w ((w.alloc (.cells #[.int .i64 k, .int .i64 ac, .int .i64 n, .int .i64 m] 38))) [.blk w.heap.size #[.int .i64 k, .int .i64 ac, .int .i64 n, .int .i64 m] 38] := ((St.start w (Nat.le_refl _)).new' #[.int .i64 k, .int .i64 ac, .int .i64 n, .int .i64 m] 38 (w.heap.size) (by simp)).1;have HT := Lib.hid T0;have hz : w.heap.size + 1 ≤ (w.alloc (.cells #[.int .i64 k, .int .i64 ac, .int .i64 n, .int .i64 m] 38)).heap.size := (by simp);clear T0;go_enter Tryd.func58, Tryd.ntmps58
      go_upto_region 1 with fail;generalize (w.alloc (.cells #[.int .i64 k, .int .i64 ac, .int .i64 n, .int .i64 m] 38)) = W5 at *;have h_ := HT.rz 1;go_wp2_with fail;go_ret
      exact ⟨rfl, HT.out.below⟩
     ·by_cases h5 : n > 1099511627776
      ·have hd : deedF ⟨k, ac, n, m⟩ = 2 := by
        unfold deedF;dsimp only;rw [if_neg (by omega), if_pos (by omega)]
       rw [hd];clear hd;have T0 : St w.heap.size w ((w.alloc (.cells #[.int .i64 k, .int .i64 ac, .int .i64 n, .int .i64 m] 38))) [.blk w.heap.size #[.int .i64 k, .int .i64 ac, .int .i64 n, .int .i64 m] 38] := ((St.start w (Nat.le_refl _)).new' #[.int .i64 k, .int .i64 ac, .int .i64 n, .int .i64 m] 38 (w.heap.size) (by simp)).1;have HT := Lib.hid T0;have hz : w.heap.size + 1 ≤ (w.alloc (.cells #[.int .i64 k, .int .i64 ac, .int .i64 n, .int .i64 m] 38)).heap.size := (by simp);clear T0;go_enter Tryd.func58, Tryd.ntmps58
       go_upto_region 1 with fail;generalize (w.alloc (.cells #[.int .i64 k, .int .i64 ac, .int .i64 n, .int .i64 m] 38)) = W6 at *;have h_ := HT.rz 1;go_wp2_with fail;go_ret
       exact ⟨rfl, HT.out.below⟩
      ·by_cases h6 : m < -1099511627776
       ·have hd : deedF ⟨k, ac, n, m⟩ = 2 := by
         unfold deedF;dsimp only;rw [if_neg (by omega), if_pos (by omega)]
        rw [hd];clear hd;have T0 : St w.heap.size w ((w.alloc (.cells #[.int .i64 k, .int .i64 ac, .int .i64 n, .int .i64 m] 38))) [.blk w.heap.size #[.int .i64 k, .int .i64 ac, .int .i64 n, .int .i64 m] 38] := ((St.start w (Nat.le_refl _)).new' #[.int .i64 k, .int .i64 ac, .int .i64 n, .int .i64 m] 38 (w.heap.size) (by simp)).1;have HT := Lib.hid T0;have hz : w.heap.size + 1 ≤ (w.alloc (.cells #[.int .i64 k, .int .i64 ac, .int .i64 n, .int .i64 m] 38)).heap.size := (by simp);clear T0;go_enter Tryd.func58, Tryd.ntmps58
        go_upto_region 1 with fail;generalize (w.alloc (.cells #[.int .i64 k, .int .i64 ac, .int .i64 n, .int .i64 m] 38)) = W7 at *;have h_ := HT.rz 1;go_wp2_with fail;go_ret
        exact ⟨rfl, HT.out.below⟩
       ·by_cases h7 : m > 1099511627776
        ·have hd : deedF ⟨k, ac, n, m⟩ = 2 := by
          unfold deedF;dsimp only;rw [if_neg (by omega), if_pos (by omega)]
         rw [hd];clear hd;have T0 : St w.heap.size w ((w.alloc (.cells #[.int .i64 k, .int .i64 ac, .int .i64 n, .int .i64 m] 38))) [.blk w.heap.size #[.int .i64 k, .int .i64 ac, .int .i64 n, .int .i64 m] 38] := ((St.start w (Nat.le_refl _)).new' #[.int .i64 k, .int .i64 ac, .int .i64 n, .int .i64 m] 38 (w.heap.size) (by simp)).1;have HT := Lib.hid T0;have hz : w.heap.size + 1 ≤ (w.alloc (.cells #[.int .i64 k, .int .i64 ac, .int .i64 n, .int .i64 m] 38)).heap.size := (by simp);clear T0;go_enter Tryd.func58, Tryd.ntmps58
         go_upto_region 1 with fail;generalize (w.alloc (.cells #[.int .i64 k, .int .i64 ac, .int .i64 n, .int .i64 m] 38)) = W8 at *;have h_ := HT.rz 1;go_wp2_with fail;go_ret
         exact ⟨rfl, HT.out.below⟩
        ·have hd : deedF ⟨k, ac, n, m⟩ = 0 := by
          unfold deedF;dsimp only;rw [if_neg (by omega), if_neg (by omega)]
         rw [hd];clear hd;have T0 : St w.heap.size w ((w.alloc (.cells #[.int .i64 k, .int .i64 ac, .int .i64 n, .int .i64 m] 38))) [.blk w.heap.size #[.int .i64 k, .int .i64 ac, .int .i64 n, .int .i64 m] 38] := ((St.start w (Nat.le_refl _)).new' #[.int .i64 k, .int .i64 ac, .int .i64 n, .int .i64 m] 38 (w.heap.size) (by simp)).1;have HT := Lib.hid T0;have hz : w.heap.size + 1 ≤ (w.alloc (.cells #[.int .i64 k, .int .i64 ac, .int .i64 n, .int .i64 m] 38)).heap.size := (by simp);clear T0;go_enter Tryd.func58, Tryd.ntmps58
         go_upto_region 1 with fail;generalize (w.alloc (.cells #[.int .i64 k, .int .i64 ac, .int .i64 n, .int .i64 m] 38)) = W9 at *;have h_ := HT.rz 1;go_wp2_with fail;go_ret
         exact ⟨rfl, HT.out.below⟩
end Go.Proofs.YtabcjdalifhpdaaDoor
