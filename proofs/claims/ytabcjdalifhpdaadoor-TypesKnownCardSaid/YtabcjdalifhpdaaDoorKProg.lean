/- The walk of treadwheelkeep.instr. Condition: the numbers are numbers of 64 bits. The walk of treadwheelkeep.right. Condition: the table of operators is as the program's text lays it; a behavior that is not long. The walk of treadwheelkeep.behavior. Condition: the table of operators is as the program's text lays it; a behavior that is not long. The walk of treadwheelkeep.Program. Condition: the table of operators is as the program's text lays it; behaviors that are not long. -/
import Derived.Test.YtabcjdalifhpdaaDoorKeepP
import Derived.Test.YtabcjdalifhpdaaDoorStD
import Derived.Test.YtabcjdalifhpdaaDoorVerCheck
import Derived.Test.YtabcjdalifhpdaaDoorDecL
namespace Go.Proofs.YtabcjdalifhpdaaDoor
section
open Go.RowKit
set_option maxRecDepth 100000 in
set_option maxHeartbeats 16000000 in
theorem instrK_any (k a b c : Int) (hk : -9223372036854775808 ≤ k ∧ k ≤ 9223372036854775807) (ha : -9223372036854775808 ≤ a ∧ a ≤ 9223372036854775807) (hb : -9223372036854775808 ≤ b ∧ b ≤ 9223372036854775807) (hc : -9223372036854775808 ≤ c ∧ c ≤ 9223372036854775807) (w : World) :
    Calls Tryd.prog 89 #[.agg #[.int .i64 k, .int .i64 a, .int .i64 b, .int .i64 c]] w fun e w' => e = .returned (.agg #[.int .i64 (instrK ⟨k, a, b, c⟩).op, .int .i64 (instrK ⟨k, a, b, c⟩).a, .int .i64 (instrK ⟨k, a, b, c⟩).b, .int .i64 (instrK ⟨k, a, b, c⟩).n]) ∧ Below w.heap.size w w' := by
  have Pa := Lib.hid (fun W => picked_any a 6 ha.1 ha.2 (by omega) (by omega) W)
  have Pb := Lib.hid (fun W => picked_any b 6 hb.1 hb.2 (by omega) (by omega) W)
  have Pk := Lib.hid (fun W => picked_any k 26 hk.1 hk.2 (by omega) (by omega) W)
  have C2 := Lib.hid (fun W => picked_any c 2 hc.1 hc.2 (by omega) (by omega) W)
  have C3 := Lib.hid (fun W => picked_any c 3 hc.1 hc.2 (by omega) (by omega) W)
  have C4 := Lib.hid (fun W => picked_any c 4 hc.1 hc.2 (by omega) (by omega) W)
  have C12 := Lib.hid (fun W => picked_any c 12 hc.1 hc.2 (by omega) (by omega) W)
  have l2 := pickN_lt c 2 (by omega)
  have l3 := pickN_lt c 3 (by omega)
  have l4 := pickN_lt c 4 (by omega)
  have l12 := pickN_lt c 12 (by omega)
  obtain ⟨X, hI⟩ : ∃ X, X = instrK ⟨k, a, b, c⟩ := ⟨_, rfl⟩
  rw [← hI]
  unfold instrK at hI
  dsimp only at hI
  generalize pickN a 6 = pa at *
  generalize pickN b 6 = pb at *
  generalize pickN k 26 = p at *
  generalize pickN c 2 = c2 at *
  generalize pickN c 3 = c3 at *
  generalize pickN c 4 = c4 at *
  generalize pickN c 12 = c12 at *
  have HI := Lib.hid hI
  clear hI hk ha hb hc
  have T0 : St w.heap.size w (((w.alloc (.cells #[.int .i64 k, .int .i64 a, .int .i64 b, .int .i64 c] 98)).alloc (.cells #[.int .i64 0, .int .i64 0, .int .i64 0, .int .i64 0] 42))) [.blk (w.heap.size + 1) #[.int .i64 0, .int .i64 0, .int .i64 0, .int .i64 0] 42, .blk w.heap.size #[.int .i64 k, .int .i64 a, .int .i64 b, .int .i64 c] 98] := ((((St.start w (Nat.le_refl _)).new' #[.int .i64 k, .int .i64 a, .int .i64 b, .int .i64 c] 98 (w.heap.size) (by simp)).1).new' #[.int .i64 0, .int .i64 0, .int .i64 0, .int .i64 0] 42 (w.heap.size + 1) (by simp)).1
  have HT := Lib.hid T0
  have hz : w.heap.size + 1 + 1 ≤ ((w.alloc (.cells #[.int .i64 k, .int .i64 a, .int .i64 b, .int .i64 c] 98)).alloc (.cells #[.int .i64 0, .int .i64 0, .int .i64 0, .int .i64 0] 42)).heap.size := by simp
  clear T0
  go_enter Tryd.func89, Tryd.ntmps89
  go_upto_region 1 with fail
  generalize ((w.alloc (.cells #[.int .i64 k, .int .i64 a, .int .i64 b, .int .i64 c] 98)).alloc (.cells #[.int .i64 0, .int .i64 0, .int .i64 0, .int .i64 0] 42)) = W1 at *
  obtain ⟨r_out, q_out, r_r, q_r, -⟩ := HT.out.rules
  have z_out : w.heap.size + 1 < W1.heap.size := (HT.out.in_ 0 rfl rfl).2
  have z_r : w.heap.size < W1.heap.size := (HT.out.in_ 1 rfl rfl).2
  refine wp_region_tree (.still [0, 1, 3, 4] (.alt (.loud 2 [3, 4] (.alt (.loud 5 [] (.still [6] (.loud 7 [0, 1, 3, 4, 6] (.loud 8 [] .done)))) (.loud 7 [0, 1, 3, 4] (.loud 5 [] (.still [6] (.loud 8 [] .done)))))) (.loud 7 [0, 1, 3, 4] (.loud 2 [3, 4] (.loud 5 [] (.still [6] (.loud 8 [] .done))))))) (fun a9 b9 w9 => ∃ (gi : Nat), St w.heap.size w w9 [.blk gi #[.int .i64 0, .int .i64 pa, .int .i64 pb, .int .i64 0] 42, .blk (w.heap.size + 1) #[.int .i64 0, .int .i64 0, .int .i64 0, .int .i64 0] 42, .blk w.heap.size #[.int .i64 k, .int .i64 a, .int .i64 b, .int .i64 c] 98] ∧ w.heap.size + 1 + 1 ≤ w9.heap.size ∧ ∃ (g5 : Value) (g6 : Value) (g7 : Value) (g8 : Value) (g9 : Value) (g10 : Value) (g11 : Value), b9 = ((((((((a9.put (some 5) g5).put (some 6) g6).put (some 7) g7).put (some 8) g8).put (some 9) g9).put (some 10) g10).put (some 11) g11).put (some 3) (.pointer (some ⟨gi, 0, none⟩)))) (by kernel_rfl) (by kernel_rfl) ?_ ?_
  focus
    obtain ⟨T', K'⟩ := HT.out.drew'
    replace HT := Lib.hid T'
    clear T' K'
    replace hz : w.heap.size + 1 + 1 ≤ W1.drew.heap.size := hz
    clear r_out q_out r_r q_r z_out z_r
    generalize W1.drew = W3 at *
    obtain ⟨r_out, q_out, r_r, q_r, -⟩ := HT.out.rules
    have z_out : w.heap.size + 1 < W3.heap.size := (HT.out.in_ 0 rfl rfl).2
    have z_r : w.heap.size < W3.heap.size := (HT.out.in_ 1 rfl rfl).2
    clear r_out q_out r_r q_r z_out z_r
    obtain ⟨-, -, r_r, q_r, -⟩ := HT.out.rules
    have z_r : w.heap.size < W3.heap.size := (HT.out.in_ 1 rfl rfl).2
    refine tr_still ?_
    simp only [pick, List.getElem?_toArray, List.getElem?_cons_succ, List.getElem?_cons_zero]
    repeat still_step
    refine wpStill_nil ?_
    refine tr_alt ?_ ?_
    · refine tr_loud ?_
      simp only [pick, List.getElem?_toArray, List.getElem?_cons_succ, List.getElem?_cons_zero]
      go_wp2_with fail
      refine (Pa.out _).mono ?_
      rintro en W' ⟨rfl, rfl⟩
      go_wp2_with fail
      refine ⟨?_, ?_⟩
      · simp only [Again, pick, List.getElem?_toArray, List.getElem?_cons_succ, List.getElem?_cons_zero]
        refine ⟨?_, ?_, trivial⟩
        all_goals (still_step; exact wpStill_nil rfl)
      refine tr_alt ?_ ?_
      · refine tr_loud ?_
        simp only [pick, List.getElem?_toArray, List.getElem?_cons_succ, List.getElem?_cons_zero]
        go_wp2_with fail
        refine (Pb.out _).mono ?_
        rintro en W' ⟨rfl, rfl⟩
        go_wp2_with fail
        refine ⟨trivial, ?_⟩
        refine tr_still ?_
        simp only [pick, List.getElem?_toArray, List.getElem?_cons_succ, List.getElem?_cons_zero]
        repeat still_step
        refine wpStill_nil ?_
        refine tr_loud ?_
        simp only [pick, List.getElem?_toArray, List.getElem?_cons_succ, List.getElem?_cons_zero]
        go_wp2_with fail
        obtain ⟨T', K'⟩ := HT.out.new' #[.int .i64 0, .int .i64 0, .int .i64 0, .int .i64 0] 42 W3.heap.size (by first | (simp; done) | rfl)
        replace HT := Lib.hid T'
        clear T' K'
        replace hz : w.heap.size + 1 + 1 ≤ ((W3.alloc (.cells #[.int .i64 0, .int .i64 0, .int .i64 0, .int .i64 0] 42))).heap.size := Nat.le_trans hz (by simp)
        clear r_r q_r z_r
        generalize (W3.alloc (.cells #[.int .i64 0, .int .i64 0, .int .i64 0, .int .i64 0] 42)) = W4 at *
        obtain ⟨r_i, q_i, -, -, r_r, q_r, -⟩ := HT.out.rules
        have z_i : W3.heap.size < W4.heap.size := (HT.out.in_ 0 rfl rfl).2
        have z_r : w.heap.size < W4.heap.size := (HT.out.in_ 2 rfl rfl).2
        refine ⟨?_, ?_⟩
        · simp only [Again, pick, List.getElem?_toArray, List.getElem?_cons_succ, List.getElem?_cons_zero]
          refine ⟨?_, ?_, ?_, ?_, ?_, trivial⟩
          all_goals (still_step; exact wpStill_nil rfl)
        refine tr_loud ?_
        simp only [pick, List.getElem?_toArray, List.getElem?_cons_succ, List.getElem?_cons_zero]
        go_wp2_with fail
        clear r_i q_i r_r q_r z_i z_r
        obtain ⟨T', K'⟩ := HT.out.put4 0 (.int .i64 0) (.int .i64 pa) (.int .i64 pb) (.int .i64 0) rfl rfl
        simp only [List.set_cons_zero] at T' K'
        replace HT := Lib.hid T'
        clear T' K'
        replace hz : w.heap.size + 1 + 1 ≤ (((((W4.setCell ⟨W3.heap.size, 0, none⟩ (.int .i64 0)).setCell ⟨W3.heap.size, 1, none⟩ (.int .i64 pa)).setCell ⟨W3.heap.size, 2, none⟩ (.int .i64 pb)).setCell ⟨W3.heap.size, 3, none⟩ (.int .i64 0))).heap.size := by simpa using hz
        generalize ((((W4.setCell ⟨W3.heap.size, 0, none⟩ (.int .i64 0)).setCell ⟨W3.heap.size, 1, none⟩ (.int .i64 pa)).setCell ⟨W3.heap.size, 2, none⟩ (.int .i64 pb)).setCell ⟨W3.heap.size, 3, none⟩ (.int .i64 0)) = W5 at *
        obtain ⟨-, -, -, -, r_r, q_r, -⟩ := HT.out.rules
        have z_r : w.heap.size < W5.heap.size := (HT.out.in_ 2 rfl rfl).2
        refine ⟨trivial, ?_⟩
        have hP9 := HT.out.perm (R' := [.blk W3.heap.size #[.int .i64 0, .int .i64 pa, .int .i64 pb, .int .i64 0] 42, .blk (w.heap.size + 1) #[.int .i64 0, .int .i64 0, .int .i64 0, .int .i64 0] 42, .blk w.heap.size #[.int .i64 k, .int .i64 a, .int .i64 b, .int .i64 c] 98]) (.refl _)
        refine tr_done ?_
        refine ⟨W3.heap.size, hP9.1, hz, ?_⟩
        repeat (apply Exists.intro)
        try simp only [Act.put, List.setIfInBounds_toArray, List.set_cons_succ, List.set_cons_zero]
        rfl
      · refine tr_loud ?_
        simp only [pick, List.getElem?_toArray, List.getElem?_cons_succ, List.getElem?_cons_zero]
        go_wp2_with fail
        obtain ⟨T', K'⟩ := HT.out.new' #[.int .i64 0, .int .i64 0, .int .i64 0, .int .i64 0] 42 W3.heap.size (by first | (simp; done) | rfl)
        replace HT := Lib.hid T'
        clear T' K'
        replace hz : w.heap.size + 1 + 1 ≤ ((W3.alloc (.cells #[.int .i64 0, .int .i64 0, .int .i64 0, .int .i64 0] 42))).heap.size := Nat.le_trans hz (by simp)
        clear r_r q_r z_r
        generalize (W3.alloc (.cells #[.int .i64 0, .int .i64 0, .int .i64 0, .int .i64 0] 42)) = W6 at *
        obtain ⟨r_i, q_i, -, -, r_r, q_r, -⟩ := HT.out.rules
        have z_i : W3.heap.size < W6.heap.size := (HT.out.in_ 0 rfl rfl).2
        have z_r : w.heap.size < W6.heap.size := (HT.out.in_ 2 rfl rfl).2
        refine ⟨?_, ?_⟩
        · simp only [Again, pick, List.getElem?_toArray, List.getElem?_cons_succ, List.getElem?_cons_zero]
          refine ⟨?_, ?_, ?_, ?_, trivial⟩
          all_goals (still_step; exact wpStill_nil rfl)
        refine tr_loud ?_
        simp only [pick, List.getElem?_toArray, List.getElem?_cons_succ, List.getElem?_cons_zero]
        go_wp2_with fail
        refine (Pb.out _).mono ?_
        rintro en W' ⟨rfl, rfl⟩
        go_wp2_with fail
        refine ⟨trivial, ?_⟩
        refine tr_still ?_
        simp only [pick, List.getElem?_toArray, List.getElem?_cons_succ, List.getElem?_cons_zero]
        repeat still_step
        refine wpStill_nil ?_
        refine tr_loud ?_
        simp only [pick, List.getElem?_toArray, List.getElem?_cons_succ, List.getElem?_cons_zero]
        go_wp2_with fail
        clear r_i q_i r_r q_r z_i z_r
        obtain ⟨T', K'⟩ := HT.out.put4 0 (.int .i64 0) (.int .i64 pa) (.int .i64 pb) (.int .i64 0) rfl rfl
        simp only [List.set_cons_zero] at T' K'
        replace HT := Lib.hid T'
        clear T' K'
        replace hz : w.heap.size + 1 + 1 ≤ (((((W6.setCell ⟨W3.heap.size, 0, none⟩ (.int .i64 0)).setCell ⟨W3.heap.size, 1, none⟩ (.int .i64 pa)).setCell ⟨W3.heap.size, 2, none⟩ (.int .i64 pb)).setCell ⟨W3.heap.size, 3, none⟩ (.int .i64 0))).heap.size := by simpa using hz
        generalize ((((W6.setCell ⟨W3.heap.size, 0, none⟩ (.int .i64 0)).setCell ⟨W3.heap.size, 1, none⟩ (.int .i64 pa)).setCell ⟨W3.heap.size, 2, none⟩ (.int .i64 pb)).setCell ⟨W3.heap.size, 3, none⟩ (.int .i64 0)) = W7 at *
        obtain ⟨-, -, -, -, r_r, q_r, -⟩ := HT.out.rules
        have z_r : w.heap.size < W7.heap.size := (HT.out.in_ 2 rfl rfl).2
        refine ⟨trivial, ?_⟩
        have hP9 := HT.out.perm (R' := [.blk W3.heap.size #[.int .i64 0, .int .i64 pa, .int .i64 pb, .int .i64 0] 42, .blk (w.heap.size + 1) #[.int .i64 0, .int .i64 0, .int .i64 0, .int .i64 0] 42, .blk w.heap.size #[.int .i64 k, .int .i64 a, .int .i64 b, .int .i64 c] 98]) (.refl _)
        refine tr_done ?_
        refine ⟨W3.heap.size, hP9.1, hz, ?_⟩
        repeat (apply Exists.intro)
        try simp only [Act.put, List.setIfInBounds_toArray, List.set_cons_succ, List.set_cons_zero]
        rfl
    · refine tr_loud ?_
      simp only [pick, List.getElem?_toArray, List.getElem?_cons_succ, List.getElem?_cons_zero]
      go_wp2_with fail
      obtain ⟨T', K'⟩ := HT.out.new' #[.int .i64 0, .int .i64 0, .int .i64 0, .int .i64 0] 42 W3.heap.size (by first | (simp; done) | rfl)
      replace HT := Lib.hid T'
      clear T' K'
      replace hz : w.heap.size + 1 + 1 ≤ ((W3.alloc (.cells #[.int .i64 0, .int .i64 0, .int .i64 0, .int .i64 0] 42))).heap.size := Nat.le_trans hz (by simp)
      clear r_r q_r z_r
      generalize (W3.alloc (.cells #[.int .i64 0, .int .i64 0, .int .i64 0, .int .i64 0] 42)) = W8 at *
      obtain ⟨r_i, q_i, -, -, r_r, q_r, -⟩ := HT.out.rules
      have z_i : W3.heap.size < W8.heap.size := (HT.out.in_ 0 rfl rfl).2
      have z_r : w.heap.size < W8.heap.size := (HT.out.in_ 2 rfl rfl).2
      refine ⟨?_, ?_⟩
      · simp only [Again, pick, List.getElem?_toArray, List.getElem?_cons_succ, List.getElem?_cons_zero]
        refine ⟨?_, ?_, ?_, ?_, trivial⟩
        all_goals (still_step; exact wpStill_nil rfl)
      refine tr_loud ?_
      simp only [pick, List.getElem?_toArray, List.getElem?_cons_succ, List.getElem?_cons_zero]
      go_wp2_with fail
      refine (Pa.out _).mono ?_
      rintro en W' ⟨rfl, rfl⟩
      go_wp2_with fail
      refine ⟨?_, ?_⟩
      · simp only [Again, pick, List.getElem?_toArray, List.getElem?_cons_succ, List.getElem?_cons_zero]
        refine ⟨?_, ?_, trivial⟩
        all_goals (still_step; exact wpStill_nil rfl)
      refine tr_loud ?_
      simp only [pick, List.getElem?_toArray, List.getElem?_cons_succ, List.getElem?_cons_zero]
      go_wp2_with fail
      refine (Pb.out _).mono ?_
      rintro en W' ⟨rfl, rfl⟩
      go_wp2_with fail
      refine ⟨trivial, ?_⟩
      refine tr_still ?_
      simp only [pick, List.getElem?_toArray, List.getElem?_cons_succ, List.getElem?_cons_zero]
      repeat still_step
      refine wpStill_nil ?_
      refine tr_loud ?_
      simp only [pick, List.getElem?_toArray, List.getElem?_cons_succ, List.getElem?_cons_zero]
      go_wp2_with fail
      clear r_i q_i r_r q_r z_i z_r
      obtain ⟨T', K'⟩ := HT.out.put4 0 (.int .i64 0) (.int .i64 pa) (.int .i64 pb) (.int .i64 0) rfl rfl
      simp only [List.set_cons_zero] at T' K'
      replace HT := Lib.hid T'
      clear T' K'
      replace hz : w.heap.size + 1 + 1 ≤ (((((W8.setCell ⟨W3.heap.size, 0, none⟩ (.int .i64 0)).setCell ⟨W3.heap.size, 1, none⟩ (.int .i64 pa)).setCell ⟨W3.heap.size, 2, none⟩ (.int .i64 pb)).setCell ⟨W3.heap.size, 3, none⟩ (.int .i64 0))).heap.size := by simpa using hz
      generalize ((((W8.setCell ⟨W3.heap.size, 0, none⟩ (.int .i64 0)).setCell ⟨W3.heap.size, 1, none⟩ (.int .i64 pa)).setCell ⟨W3.heap.size, 2, none⟩ (.int .i64 pb)).setCell ⟨W3.heap.size, 3, none⟩ (.int .i64 0)) = W9 at *
      obtain ⟨-, -, -, -, r_r, q_r, -⟩ := HT.out.rules
      have z_r : w.heap.size < W9.heap.size := (HT.out.in_ 2 rfl rfl).2
      refine ⟨trivial, ?_⟩
      have hP9 := HT.out.perm (R' := [.blk W3.heap.size #[.int .i64 0, .int .i64 pa, .int .i64 pb, .int .i64 0] 42, .blk (w.heap.size + 1) #[.int .i64 0, .int .i64 0, .int .i64 0, .int .i64 0] 42, .blk w.heap.size #[.int .i64 k, .int .i64 a, .int .i64 b, .int .i64 c] 98]) (.refl _)
      refine tr_done ?_
      refine ⟨W3.heap.size, hP9.1, hz, ?_⟩
      repeat (apply Exists.intro)
      try simp only [Act.put, List.setIfInBounds_toArray, List.set_cons_succ, List.set_cons_zero]
      rfl
  clear r_out q_out r_r q_r z_out z_r
  intro a9 W2 hR
  obtain ⟨gi, ht, nhz, g5, g6, g7, g8, g9, g10, g11, rfl⟩ := hR
  clear HT hz
  have HT := Lib.hid ht
  have hz := nhz
  clear ht nhz
  try simp only [Act.put, List.setIfInBounds_toArray, List.set_cons_succ, List.set_cons_zero]
  obtain ⟨r_i, q_i, r_out, q_out, r_r, q_r, -⟩ := HT.out.rules
  have z_i : gi < W2.heap.size := (HT.out.in_ 0 rfl rfl).2
  have z_out : w.heap.size + 1 < W2.heap.size := (HT.out.in_ 1 rfl rfl).2
  have z_r : w.heap.size < W2.heap.size := (HT.out.in_ 2 rfl rfl).2
  go_wp2_with fail
  refine (Pk.out _).mono ?_
  rintro en W' ⟨rfl, rfl⟩
  by_cases t0 : p < 3
  · have HE : X = ⟨1, pa, 0, c12 - 3⟩ := HI.out.trans (by  rw [if_pos t0])
    clear HI
    replace HE := Lib.hid HE
    have hne : gi ≠ w.heap.size + 1 := HT.out.ne 0 1 (by decide) rfl rfl rfl rfl
    go_wp2_with fail
    refine (C12.out _).mono ?_
    rintro en W' ⟨rfl, rfl⟩
    go_upto_region 30 with fail
    clear r_i q_i r_out q_out r_r q_r z_i z_out z_r
    obtain ⟨T', K'⟩ := HT.out.put 0 0 (.int .i64 1) rfl
    simp only [List.set_cons_zero, List.setIfInBounds_toArray] at T' K'
    replace HT := Lib.hid T'
    clear T' K'
    replace hz : w.heap.size + 1 + 1 ≤ ((W2.setCell ⟨gi, 0, none⟩ (.int .i64 1))).heap.size := by simpa using hz
    generalize W2.setCell ⟨gi, 0, none⟩ (.int .i64 1) = W10 at *
    obtain ⟨T', K'⟩ := HT.out.put 0 2 (.int .i64 0) rfl
    simp only [List.set_cons_succ, List.set_cons_zero, List.setIfInBounds_toArray] at T' K'
    replace HT := Lib.hid T'
    clear T' K'
    replace hz : w.heap.size + 1 + 1 ≤ ((W10.setCell ⟨gi, 2, none⟩ (.int .i64 0))).heap.size := by simpa using hz
    generalize W10.setCell ⟨gi, 2, none⟩ (.int .i64 0) = W11 at *
    obtain ⟨T', K'⟩ := HT.out.put 0 3 (.int .i64 (c12 - 3)) rfl
    simp only [List.set_cons_succ, List.set_cons_zero, List.setIfInBounds_toArray] at T' K'
    replace HT := Lib.hid T'
    clear T' K'
    replace hz : w.heap.size + 1 + 1 ≤ ((W11.setCell ⟨gi, 3, none⟩ (.int .i64 (c12 - 3)))).heap.size := by simpa using hz
    generalize W11.setCell ⟨gi, 3, none⟩ (.int .i64 (c12 - 3)) = W12 at *
    obtain ⟨r_i, q_i, r_out, q_out, r_r, q_r, -⟩ := HT.out.rules
    have z_i : gi < W12.heap.size := (HT.out.in_ 0 rfl rfl).2
    have z_out : w.heap.size + 1 < W12.heap.size := (HT.out.in_ 1 rfl rfl).2
    have z_r : w.heap.size < W12.heap.size := (HT.out.in_ 2 rfl rfl).2
    go_wp2_with fail
    clear r_i q_i r_out q_out r_r q_r z_i z_out z_r
    obtain ⟨T', K'⟩ := HT.out.put4 1 (.int .i64 1) (.int .i64 pa) (.int .i64 0) (.int .i64 (c12 - 3)) rfl rfl
    simp only [List.set_cons_succ, List.set_cons_zero] at T' K'
    replace HT := Lib.hid T'
    clear T' K'
    replace hz : w.heap.size + 1 + 1 ≤ (((((W12.setCell ⟨w.heap.size + 1, 0, none⟩ (.int .i64 1)).setCell ⟨w.heap.size + 1, 1, none⟩ (.int .i64 pa)).setCell ⟨w.heap.size + 1, 2, none⟩ (.int .i64 0)).setCell ⟨w.heap.size + 1, 3, none⟩ (.int .i64 (c12 - 3)))).heap.size := by simpa using hz
    generalize ((((W12.setCell ⟨w.heap.size + 1, 0, none⟩ (.int .i64 1)).setCell ⟨w.heap.size + 1, 1, none⟩ (.int .i64 pa)).setCell ⟨w.heap.size + 1, 2, none⟩ (.int .i64 0)).setCell ⟨w.heap.size + 1, 3, none⟩ (.int .i64 (c12 - 3))) = W13 at *
    obtain ⟨r_i, q_i, r_out, q_out, r_r, q_r, -⟩ := HT.out.rules
    have z_i : gi < W13.heap.size := (HT.out.in_ 0 rfl rfl).2
    have z_out : w.heap.size + 1 < W13.heap.size := (HT.out.in_ 1 rfl rfl).2
    have z_r : w.heap.size < W13.heap.size := (HT.out.in_ 2 rfl rfl).2
    try simp only [Exit.inBlock, Exit.then]
    refine bodyPost_ret (v := .agg #[.int .i64 1, .int .i64 pa, .int .i64 0, .int .i64 (c12 - 3)]) (by simp [results, Tryd.results89, go_sem, r_out]) rfl ?_
    exact ⟨by rw [HE.out], HT.out.below⟩
  · by_cases t1 : p < 5
    · rcases (by omega : c3 = 0 ∨ c3 = 1 ∨ c3 = 2) with rfl | rfl | rfl
      · have HE : X = ⟨2, pa, pb, 0⟩ := HI.out.trans (by rw [if_neg t0]; rw [if_pos t1]; rfl)
        clear HI
        replace HE := Lib.hid HE
        have hne : gi ≠ w.heap.size + 1 := HT.out.ne 0 1 (by decide) rfl rfl rfl rfl
        go_wp2_with fail
        refine (C3.out _).mono ?_
        rintro en W' ⟨rfl, rfl⟩
        go_upto_region 30 with fail
        clear r_i q_i r_out q_out r_r q_r z_i z_out z_r
        obtain ⟨T', K'⟩ := HT.out.put 0 0 (.int .i64 2) rfl
        simp only [List.set_cons_zero, List.setIfInBounds_toArray] at T' K'
        replace HT := Lib.hid T'
        clear T' K'
        replace hz : w.heap.size + 1 + 1 ≤ ((W2.setCell ⟨gi, 0, none⟩ (.int .i64 2))).heap.size := by simpa using hz
        generalize W2.setCell ⟨gi, 0, none⟩ (.int .i64 2) = W14 at *
        obtain ⟨T', K'⟩ := HT.out.alloc (.cells #[.int .i64 2, .int .i64 3, .int .i64 4] 3)
        replace HT := Lib.hid T'
        clear T' K'
        replace hz : w.heap.size + 1 + 1 ≤ ((W14.alloc (.cells #[.int .i64 2, .int .i64 3, .int .i64 4] 3))).heap.size := Nat.le_trans hz (by simp)
        generalize (W14.alloc (.cells #[.int .i64 2, .int .i64 3, .int .i64 4] 3)) = W15 at *
        obtain ⟨r_i, q_i, r_out, q_out, r_r, q_r, -⟩ := HT.out.rules
        have z_i : gi < W15.heap.size := (HT.out.in_ 0 rfl rfl).2
        have z_out : w.heap.size + 1 < W15.heap.size := (HT.out.in_ 1 rfl rfl).2
        have z_r : w.heap.size < W15.heap.size := (HT.out.in_ 2 rfl rfl).2
        go_wp2_with fail
        clear r_i q_i r_out q_out r_r q_r z_i z_out z_r
        obtain ⟨T', K'⟩ := HT.out.put4 1 (.int .i64 2) (.int .i64 pa) (.int .i64 pb) (.int .i64 0) rfl rfl
        simp only [List.set_cons_succ, List.set_cons_zero] at T' K'
        replace HT := Lib.hid T'
        clear T' K'
        replace hz : w.heap.size + 1 + 1 ≤ (((((W15.setCell ⟨w.heap.size + 1, 0, none⟩ (.int .i64 2)).setCell ⟨w.heap.size + 1, 1, none⟩ (.int .i64 pa)).setCell ⟨w.heap.size + 1, 2, none⟩ (.int .i64 pb)).setCell ⟨w.heap.size + 1, 3, none⟩ (.int .i64 0))).heap.size := by simpa using hz
        generalize ((((W15.setCell ⟨w.heap.size + 1, 0, none⟩ (.int .i64 2)).setCell ⟨w.heap.size + 1, 1, none⟩ (.int .i64 pa)).setCell ⟨w.heap.size + 1, 2, none⟩ (.int .i64 pb)).setCell ⟨w.heap.size + 1, 3, none⟩ (.int .i64 0)) = W16 at *
        obtain ⟨r_i, q_i, r_out, q_out, r_r, q_r, -⟩ := HT.out.rules
        have z_i : gi < W16.heap.size := (HT.out.in_ 0 rfl rfl).2
        have z_out : w.heap.size + 1 < W16.heap.size := (HT.out.in_ 1 rfl rfl).2
        have z_r : w.heap.size < W16.heap.size := (HT.out.in_ 2 rfl rfl).2
        try simp only [Exit.inBlock, Exit.then]
        refine bodyPost_ret (v := .agg #[.int .i64 2, .int .i64 pa, .int .i64 pb, .int .i64 0]) (by simp [results, Tryd.results89, go_sem, r_out]) rfl ?_
        exact ⟨by rw [HE.out], HT.out.below⟩
      · have HE : X = ⟨3, pa, pb, 0⟩ := HI.out.trans (by rw [if_neg t0]; rw [if_pos t1]; rfl)
        clear HI
        replace HE := Lib.hid HE
        have hne : gi ≠ w.heap.size + 1 := HT.out.ne 0 1 (by decide) rfl rfl rfl rfl
        go_wp2_with fail
        refine (C3.out _).mono ?_
        rintro en W' ⟨rfl, rfl⟩
        go_upto_region 30 with fail
        clear r_i q_i r_out q_out r_r q_r z_i z_out z_r
        obtain ⟨T', K'⟩ := HT.out.put 0 0 (.int .i64 3) rfl
        simp only [List.set_cons_zero, List.setIfInBounds_toArray] at T' K'
        replace HT := Lib.hid T'
        clear T' K'
        replace hz : w.heap.size + 1 + 1 ≤ ((W2.setCell ⟨gi, 0, none⟩ (.int .i64 3))).heap.size := by simpa using hz
        generalize W2.setCell ⟨gi, 0, none⟩ (.int .i64 3) = W17 at *
        obtain ⟨T', K'⟩ := HT.out.alloc (.cells #[.int .i64 2, .int .i64 3, .int .i64 4] 3)
        replace HT := Lib.hid T'
        clear T' K'
        replace hz : w.heap.size + 1 + 1 ≤ ((W17.alloc (.cells #[.int .i64 2, .int .i64 3, .int .i64 4] 3))).heap.size := Nat.le_trans hz (by simp)
        generalize (W17.alloc (.cells #[.int .i64 2, .int .i64 3, .int .i64 4] 3)) = W18 at *
        obtain ⟨r_i, q_i, r_out, q_out, r_r, q_r, -⟩ := HT.out.rules
        have z_i : gi < W18.heap.size := (HT.out.in_ 0 rfl rfl).2
        have z_out : w.heap.size + 1 < W18.heap.size := (HT.out.in_ 1 rfl rfl).2
        have z_r : w.heap.size < W18.heap.size := (HT.out.in_ 2 rfl rfl).2
        go_wp2_with fail
        clear r_i q_i r_out q_out r_r q_r z_i z_out z_r
        obtain ⟨T', K'⟩ := HT.out.put4 1 (.int .i64 3) (.int .i64 pa) (.int .i64 pb) (.int .i64 0) rfl rfl
        simp only [List.set_cons_succ, List.set_cons_zero] at T' K'
        replace HT := Lib.hid T'
        clear T' K'
        replace hz : w.heap.size + 1 + 1 ≤ (((((W18.setCell ⟨w.heap.size + 1, 0, none⟩ (.int .i64 3)).setCell ⟨w.heap.size + 1, 1, none⟩ (.int .i64 pa)).setCell ⟨w.heap.size + 1, 2, none⟩ (.int .i64 pb)).setCell ⟨w.heap.size + 1, 3, none⟩ (.int .i64 0))).heap.size := by simpa using hz
        generalize ((((W18.setCell ⟨w.heap.size + 1, 0, none⟩ (.int .i64 3)).setCell ⟨w.heap.size + 1, 1, none⟩ (.int .i64 pa)).setCell ⟨w.heap.size + 1, 2, none⟩ (.int .i64 pb)).setCell ⟨w.heap.size + 1, 3, none⟩ (.int .i64 0)) = W19 at *
        obtain ⟨r_i, q_i, r_out, q_out, r_r, q_r, -⟩ := HT.out.rules
        have z_i : gi < W19.heap.size := (HT.out.in_ 0 rfl rfl).2
        have z_out : w.heap.size + 1 < W19.heap.size := (HT.out.in_ 1 rfl rfl).2
        have z_r : w.heap.size < W19.heap.size := (HT.out.in_ 2 rfl rfl).2
        try simp only [Exit.inBlock, Exit.then]
        refine bodyPost_ret (v := .agg #[.int .i64 3, .int .i64 pa, .int .i64 pb, .int .i64 0]) (by simp [results, Tryd.results89, go_sem, r_out]) rfl ?_
        exact ⟨by rw [HE.out], HT.out.below⟩
      · have HE : X = ⟨4, pa, pb, 0⟩ := HI.out.trans (by rw [if_neg t0]; rw [if_pos t1]; rfl)
        clear HI
        replace HE := Lib.hid HE
        have hne : gi ≠ w.heap.size + 1 := HT.out.ne 0 1 (by decide) rfl rfl rfl rfl
        go_wp2_with fail
        refine (C3.out _).mono ?_
        rintro en W' ⟨rfl, rfl⟩
        go_upto_region 30 with fail
        clear r_i q_i r_out q_out r_r q_r z_i z_out z_r
        obtain ⟨T', K'⟩ := HT.out.put 0 0 (.int .i64 4) rfl
        simp only [List.set_cons_zero, List.setIfInBounds_toArray] at T' K'
        replace HT := Lib.hid T'
        clear T' K'
        replace hz : w.heap.size + 1 + 1 ≤ ((W2.setCell ⟨gi, 0, none⟩ (.int .i64 4))).heap.size := by simpa using hz
        generalize W2.setCell ⟨gi, 0, none⟩ (.int .i64 4) = W20 at *
        obtain ⟨T', K'⟩ := HT.out.alloc (.cells #[.int .i64 2, .int .i64 3, .int .i64 4] 3)
        replace HT := Lib.hid T'
        clear T' K'
        replace hz : w.heap.size + 1 + 1 ≤ ((W20.alloc (.cells #[.int .i64 2, .int .i64 3, .int .i64 4] 3))).heap.size := Nat.le_trans hz (by simp)
        generalize (W20.alloc (.cells #[.int .i64 2, .int .i64 3, .int .i64 4] 3)) = W21 at *
        obtain ⟨r_i, q_i, r_out, q_out, r_r, q_r, -⟩ := HT.out.rules
        have z_i : gi < W21.heap.size := (HT.out.in_ 0 rfl rfl).2
        have z_out : w.heap.size + 1 < W21.heap.size := (HT.out.in_ 1 rfl rfl).2
        have z_r : w.heap.size < W21.heap.size := (HT.out.in_ 2 rfl rfl).2
        go_wp2_with fail
        clear r_i q_i r_out q_out r_r q_r z_i z_out z_r
        obtain ⟨T', K'⟩ := HT.out.put4 1 (.int .i64 4) (.int .i64 pa) (.int .i64 pb) (.int .i64 0) rfl rfl
        simp only [List.set_cons_succ, List.set_cons_zero] at T' K'
        replace HT := Lib.hid T'
        clear T' K'
        replace hz : w.heap.size + 1 + 1 ≤ (((((W21.setCell ⟨w.heap.size + 1, 0, none⟩ (.int .i64 4)).setCell ⟨w.heap.size + 1, 1, none⟩ (.int .i64 pa)).setCell ⟨w.heap.size + 1, 2, none⟩ (.int .i64 pb)).setCell ⟨w.heap.size + 1, 3, none⟩ (.int .i64 0))).heap.size := by simpa using hz
        generalize ((((W21.setCell ⟨w.heap.size + 1, 0, none⟩ (.int .i64 4)).setCell ⟨w.heap.size + 1, 1, none⟩ (.int .i64 pa)).setCell ⟨w.heap.size + 1, 2, none⟩ (.int .i64 pb)).setCell ⟨w.heap.size + 1, 3, none⟩ (.int .i64 0)) = W22 at *
        obtain ⟨r_i, q_i, r_out, q_out, r_r, q_r, -⟩ := HT.out.rules
        have z_i : gi < W22.heap.size := (HT.out.in_ 0 rfl rfl).2
        have z_out : w.heap.size + 1 < W22.heap.size := (HT.out.in_ 1 rfl rfl).2
        have z_r : w.heap.size < W22.heap.size := (HT.out.in_ 2 rfl rfl).2
        try simp only [Exit.inBlock, Exit.then]
        refine bodyPost_ret (v := .agg #[.int .i64 4, .int .i64 pa, .int .i64 pb, .int .i64 0]) (by simp [results, Tryd.results89, go_sem, r_out]) rfl ?_
        exact ⟨by rw [HE.out], HT.out.below⟩
    · by_cases t2 : p < 8
      · have HE : X = ⟨7, pa, 0, 1 + c4⟩ := HI.out.trans (by rw [if_neg t0]; rw [if_neg t1]; rw [if_pos t2])
        clear HI
        replace HE := Lib.hid HE
        have hne : gi ≠ w.heap.size + 1 := HT.out.ne 0 1 (by decide) rfl rfl rfl rfl
        go_wp2_with fail
        refine (C4.out _).mono ?_
        rintro en W' ⟨rfl, rfl⟩
        go_upto_region 30 with fail
        clear r_i q_i r_out q_out r_r q_r z_i z_out z_r
        obtain ⟨T', K'⟩ := HT.out.put 0 0 (.int .i64 7) rfl
        simp only [List.set_cons_zero, List.setIfInBounds_toArray] at T' K'
        replace HT := Lib.hid T'
        clear T' K'
        replace hz : w.heap.size + 1 + 1 ≤ ((W2.setCell ⟨gi, 0, none⟩ (.int .i64 7))).heap.size := by simpa using hz
        generalize W2.setCell ⟨gi, 0, none⟩ (.int .i64 7) = W23 at *
        obtain ⟨T', K'⟩ := HT.out.put 0 2 (.int .i64 0) rfl
        simp only [List.set_cons_succ, List.set_cons_zero, List.setIfInBounds_toArray] at T' K'
        replace HT := Lib.hid T'
        clear T' K'
        replace hz : w.heap.size + 1 + 1 ≤ ((W23.setCell ⟨gi, 2, none⟩ (.int .i64 0))).heap.size := by simpa using hz
        generalize W23.setCell ⟨gi, 2, none⟩ (.int .i64 0) = W24 at *
        obtain ⟨T', K'⟩ := HT.out.put 0 3 (.int .i64 (1 + c4)) rfl
        simp only [List.set_cons_succ, List.set_cons_zero, List.setIfInBounds_toArray] at T' K'
        replace HT := Lib.hid T'
        clear T' K'
        replace hz : w.heap.size + 1 + 1 ≤ ((W24.setCell ⟨gi, 3, none⟩ (.int .i64 (1 + c4)))).heap.size := by simpa using hz
        generalize W24.setCell ⟨gi, 3, none⟩ (.int .i64 (1 + c4)) = W25 at *
        obtain ⟨r_i, q_i, r_out, q_out, r_r, q_r, -⟩ := HT.out.rules
        have z_i : gi < W25.heap.size := (HT.out.in_ 0 rfl rfl).2
        have z_out : w.heap.size + 1 < W25.heap.size := (HT.out.in_ 1 rfl rfl).2
        have z_r : w.heap.size < W25.heap.size := (HT.out.in_ 2 rfl rfl).2
        go_wp2_with fail
        clear r_i q_i r_out q_out r_r q_r z_i z_out z_r
        obtain ⟨T', K'⟩ := HT.out.put4 1 (.int .i64 7) (.int .i64 pa) (.int .i64 0) (.int .i64 (1 + c4)) rfl rfl
        simp only [List.set_cons_succ, List.set_cons_zero] at T' K'
        replace HT := Lib.hid T'
        clear T' K'
        replace hz : w.heap.size + 1 + 1 ≤ (((((W25.setCell ⟨w.heap.size + 1, 0, none⟩ (.int .i64 7)).setCell ⟨w.heap.size + 1, 1, none⟩ (.int .i64 pa)).setCell ⟨w.heap.size + 1, 2, none⟩ (.int .i64 0)).setCell ⟨w.heap.size + 1, 3, none⟩ (.int .i64 (1 + c4)))).heap.size := by simpa using hz
        generalize ((((W25.setCell ⟨w.heap.size + 1, 0, none⟩ (.int .i64 7)).setCell ⟨w.heap.size + 1, 1, none⟩ (.int .i64 pa)).setCell ⟨w.heap.size + 1, 2, none⟩ (.int .i64 0)).setCell ⟨w.heap.size + 1, 3, none⟩ (.int .i64 (1 + c4))) = W26 at *
        obtain ⟨r_i, q_i, r_out, q_out, r_r, q_r, -⟩ := HT.out.rules
        have z_i : gi < W26.heap.size := (HT.out.in_ 0 rfl rfl).2
        have z_out : w.heap.size + 1 < W26.heap.size := (HT.out.in_ 1 rfl rfl).2
        have z_r : w.heap.size < W26.heap.size := (HT.out.in_ 2 rfl rfl).2
        try simp only [Exit.inBlock, Exit.then]
        refine bodyPost_ret (v := .agg #[.int .i64 7, .int .i64 pa, .int .i64 0, .int .i64 (1 + c4)]) (by simp [results, Tryd.results89, go_sem, r_out]) rfl ?_
        exact ⟨by rw [HE.out], HT.out.below⟩
      · by_cases t3 : p < 10
        · have HE : X = ⟨8, pa, pb, c3⟩ := HI.out.trans (by rw [if_neg t0]; rw [if_neg t1]; rw [if_neg t2]; rw [if_pos t3])
          clear HI
          replace HE := Lib.hid HE
          have hne : gi ≠ w.heap.size + 1 := HT.out.ne 0 1 (by decide) rfl rfl rfl rfl
          go_wp2_with fail
          refine (C3.out _).mono ?_
          rintro en W' ⟨rfl, rfl⟩
          go_upto_region 30 with fail
          clear r_i q_i r_out q_out r_r q_r z_i z_out z_r
          obtain ⟨T', K'⟩ := HT.out.put 0 0 (.int .i64 8) rfl
          simp only [List.set_cons_zero, List.setIfInBounds_toArray] at T' K'
          replace HT := Lib.hid T'
          clear T' K'
          replace hz : w.heap.size + 1 + 1 ≤ ((W2.setCell ⟨gi, 0, none⟩ (.int .i64 8))).heap.size := by simpa using hz
          generalize W2.setCell ⟨gi, 0, none⟩ (.int .i64 8) = W27 at *
          obtain ⟨T', K'⟩ := HT.out.put 0 3 (.int .i64 c3) rfl
          simp only [List.set_cons_succ, List.set_cons_zero, List.setIfInBounds_toArray] at T' K'
          replace HT := Lib.hid T'
          clear T' K'
          replace hz : w.heap.size + 1 + 1 ≤ ((W27.setCell ⟨gi, 3, none⟩ (.int .i64 c3))).heap.size := by simpa using hz
          generalize W27.setCell ⟨gi, 3, none⟩ (.int .i64 c3) = W28 at *
          obtain ⟨r_i, q_i, r_out, q_out, r_r, q_r, -⟩ := HT.out.rules
          have z_i : gi < W28.heap.size := (HT.out.in_ 0 rfl rfl).2
          have z_out : w.heap.size + 1 < W28.heap.size := (HT.out.in_ 1 rfl rfl).2
          have z_r : w.heap.size < W28.heap.size := (HT.out.in_ 2 rfl rfl).2
          go_wp2_with fail
          clear r_i q_i r_out q_out r_r q_r z_i z_out z_r
          obtain ⟨T', K'⟩ := HT.out.put4 1 (.int .i64 8) (.int .i64 pa) (.int .i64 pb) (.int .i64 c3) rfl rfl
          simp only [List.set_cons_succ, List.set_cons_zero] at T' K'
          replace HT := Lib.hid T'
          clear T' K'
          replace hz : w.heap.size + 1 + 1 ≤ (((((W28.setCell ⟨w.heap.size + 1, 0, none⟩ (.int .i64 8)).setCell ⟨w.heap.size + 1, 1, none⟩ (.int .i64 pa)).setCell ⟨w.heap.size + 1, 2, none⟩ (.int .i64 pb)).setCell ⟨w.heap.size + 1, 3, none⟩ (.int .i64 c3))).heap.size := by simpa using hz
          generalize ((((W28.setCell ⟨w.heap.size + 1, 0, none⟩ (.int .i64 8)).setCell ⟨w.heap.size + 1, 1, none⟩ (.int .i64 pa)).setCell ⟨w.heap.size + 1, 2, none⟩ (.int .i64 pb)).setCell ⟨w.heap.size + 1, 3, none⟩ (.int .i64 c3)) = W29 at *
          obtain ⟨r_i, q_i, r_out, q_out, r_r, q_r, -⟩ := HT.out.rules
          have z_i : gi < W29.heap.size := (HT.out.in_ 0 rfl rfl).2
          have z_out : w.heap.size + 1 < W29.heap.size := (HT.out.in_ 1 rfl rfl).2
          have z_r : w.heap.size < W29.heap.size := (HT.out.in_ 2 rfl rfl).2
          try simp only [Exit.inBlock, Exit.then]
          refine bodyPost_ret (v := .agg #[.int .i64 8, .int .i64 pa, .int .i64 pb, .int .i64 c3]) (by simp [results, Tryd.results89, go_sem, r_out]) rfl ?_
          exact ⟨by rw [HE.out], HT.out.below⟩
        · by_cases t4 : p < 12
          · have HE : X = ⟨9, pa, pb, c2⟩ := HI.out.trans (by rw [if_neg t0]; rw [if_neg t1]; rw [if_neg t2]; rw [if_neg t3]; rw [if_pos t4])
            clear HI
            replace HE := Lib.hid HE
            have hne : gi ≠ w.heap.size + 1 := HT.out.ne 0 1 (by decide) rfl rfl rfl rfl
            go_wp2_with fail
            refine (C2.out _).mono ?_
            rintro en W' ⟨rfl, rfl⟩
            go_upto_region 30 with fail
            clear r_i q_i r_out q_out r_r q_r z_i z_out z_r
            obtain ⟨T', K'⟩ := HT.out.put 0 0 (.int .i64 9) rfl
            simp only [List.set_cons_zero, List.setIfInBounds_toArray] at T' K'
            replace HT := Lib.hid T'
            clear T' K'
            replace hz : w.heap.size + 1 + 1 ≤ ((W2.setCell ⟨gi, 0, none⟩ (.int .i64 9))).heap.size := by simpa using hz
            generalize W2.setCell ⟨gi, 0, none⟩ (.int .i64 9) = W30 at *
            obtain ⟨T', K'⟩ := HT.out.put 0 3 (.int .i64 c2) rfl
            simp only [List.set_cons_succ, List.set_cons_zero, List.setIfInBounds_toArray] at T' K'
            replace HT := Lib.hid T'
            clear T' K'
            replace hz : w.heap.size + 1 + 1 ≤ ((W30.setCell ⟨gi, 3, none⟩ (.int .i64 c2))).heap.size := by simpa using hz
            generalize W30.setCell ⟨gi, 3, none⟩ (.int .i64 c2) = W31 at *
            obtain ⟨r_i, q_i, r_out, q_out, r_r, q_r, -⟩ := HT.out.rules
            have z_i : gi < W31.heap.size := (HT.out.in_ 0 rfl rfl).2
            have z_out : w.heap.size + 1 < W31.heap.size := (HT.out.in_ 1 rfl rfl).2
            have z_r : w.heap.size < W31.heap.size := (HT.out.in_ 2 rfl rfl).2
            go_wp2_with fail
            clear r_i q_i r_out q_out r_r q_r z_i z_out z_r
            obtain ⟨T', K'⟩ := HT.out.put4 1 (.int .i64 9) (.int .i64 pa) (.int .i64 pb) (.int .i64 c2) rfl rfl
            simp only [List.set_cons_succ, List.set_cons_zero] at T' K'
            replace HT := Lib.hid T'
            clear T' K'
            replace hz : w.heap.size + 1 + 1 ≤ (((((W31.setCell ⟨w.heap.size + 1, 0, none⟩ (.int .i64 9)).setCell ⟨w.heap.size + 1, 1, none⟩ (.int .i64 pa)).setCell ⟨w.heap.size + 1, 2, none⟩ (.int .i64 pb)).setCell ⟨w.heap.size + 1, 3, none⟩ (.int .i64 c2))).heap.size := by simpa using hz
            generalize ((((W31.setCell ⟨w.heap.size + 1, 0, none⟩ (.int .i64 9)).setCell ⟨w.heap.size + 1, 1, none⟩ (.int .i64 pa)).setCell ⟨w.heap.size + 1, 2, none⟩ (.int .i64 pb)).setCell ⟨w.heap.size + 1, 3, none⟩ (.int .i64 c2)) = W32 at *
            obtain ⟨r_i, q_i, r_out, q_out, r_r, q_r, -⟩ := HT.out.rules
            have z_i : gi < W32.heap.size := (HT.out.in_ 0 rfl rfl).2
            have z_out : w.heap.size + 1 < W32.heap.size := (HT.out.in_ 1 rfl rfl).2
            have z_r : w.heap.size < W32.heap.size := (HT.out.in_ 2 rfl rfl).2
            try simp only [Exit.inBlock, Exit.then]
            refine bodyPost_ret (v := .agg #[.int .i64 9, .int .i64 pa, .int .i64 pb, .int .i64 c2]) (by simp [results, Tryd.results89, go_sem, r_out]) rfl ?_
            exact ⟨by rw [HE.out], HT.out.below⟩
          · by_cases t5 : p < 14
            · have HE : X = ⟨10, pa, pb, c2⟩ := HI.out.trans (by rw [if_neg t0]; rw [if_neg t1]; rw [if_neg t2]; rw [if_neg t3]; rw [if_neg t4]; rw [if_pos t5])
              clear HI
              replace HE := Lib.hid HE
              have hne : gi ≠ w.heap.size + 1 := HT.out.ne 0 1 (by decide) rfl rfl rfl rfl
              go_wp2_with fail
              refine (C2.out _).mono ?_
              rintro en W' ⟨rfl, rfl⟩
              go_upto_region 30 with fail
              clear r_i q_i r_out q_out r_r q_r z_i z_out z_r
              obtain ⟨T', K'⟩ := HT.out.put 0 0 (.int .i64 10) rfl
              simp only [List.set_cons_zero, List.setIfInBounds_toArray] at T' K'
              replace HT := Lib.hid T'
              clear T' K'
              replace hz : w.heap.size + 1 + 1 ≤ ((W2.setCell ⟨gi, 0, none⟩ (.int .i64 10))).heap.size := by simpa using hz
              generalize W2.setCell ⟨gi, 0, none⟩ (.int .i64 10) = W33 at *
              obtain ⟨T', K'⟩ := HT.out.put 0 3 (.int .i64 c2) rfl
              simp only [List.set_cons_succ, List.set_cons_zero, List.setIfInBounds_toArray] at T' K'
              replace HT := Lib.hid T'
              clear T' K'
              replace hz : w.heap.size + 1 + 1 ≤ ((W33.setCell ⟨gi, 3, none⟩ (.int .i64 c2))).heap.size := by simpa using hz
              generalize W33.setCell ⟨gi, 3, none⟩ (.int .i64 c2) = W34 at *
              obtain ⟨r_i, q_i, r_out, q_out, r_r, q_r, -⟩ := HT.out.rules
              have z_i : gi < W34.heap.size := (HT.out.in_ 0 rfl rfl).2
              have z_out : w.heap.size + 1 < W34.heap.size := (HT.out.in_ 1 rfl rfl).2
              have z_r : w.heap.size < W34.heap.size := (HT.out.in_ 2 rfl rfl).2
              go_wp2_with fail
              clear r_i q_i r_out q_out r_r q_r z_i z_out z_r
              obtain ⟨T', K'⟩ := HT.out.put4 1 (.int .i64 10) (.int .i64 pa) (.int .i64 pb) (.int .i64 c2) rfl rfl
              simp only [List.set_cons_succ, List.set_cons_zero] at T' K'
              replace HT := Lib.hid T'
              clear T' K'
              replace hz : w.heap.size + 1 + 1 ≤ (((((W34.setCell ⟨w.heap.size + 1, 0, none⟩ (.int .i64 10)).setCell ⟨w.heap.size + 1, 1, none⟩ (.int .i64 pa)).setCell ⟨w.heap.size + 1, 2, none⟩ (.int .i64 pb)).setCell ⟨w.heap.size + 1, 3, none⟩ (.int .i64 c2))).heap.size := by simpa using hz
              generalize ((((W34.setCell ⟨w.heap.size + 1, 0, none⟩ (.int .i64 10)).setCell ⟨w.heap.size + 1, 1, none⟩ (.int .i64 pa)).setCell ⟨w.heap.size + 1, 2, none⟩ (.int .i64 pb)).setCell ⟨w.heap.size + 1, 3, none⟩ (.int .i64 c2)) = W35 at *
              obtain ⟨r_i, q_i, r_out, q_out, r_r, q_r, -⟩ := HT.out.rules
              have z_i : gi < W35.heap.size := (HT.out.in_ 0 rfl rfl).2
              have z_out : w.heap.size + 1 < W35.heap.size := (HT.out.in_ 1 rfl rfl).2
              have z_r : w.heap.size < W35.heap.size := (HT.out.in_ 2 rfl rfl).2
              try simp only [Exit.inBlock, Exit.then]
              refine bodyPost_ret (v := .agg #[.int .i64 10, .int .i64 pa, .int .i64 pb, .int .i64 c2]) (by simp [results, Tryd.results89, go_sem, r_out]) rfl ?_
              exact ⟨by rw [HE.out], HT.out.below⟩
            · by_cases t6 : p < 17
              · have HE : X = ⟨11, pa, pb, c2⟩ := HI.out.trans (by rw [if_neg t0]; rw [if_neg t1]; rw [if_neg t2]; rw [if_neg t3]; rw [if_neg t4]; rw [if_neg t5]; rw [if_pos t6])
                clear HI
                replace HE := Lib.hid HE
                have hne : gi ≠ w.heap.size + 1 := HT.out.ne 0 1 (by decide) rfl rfl rfl rfl
                go_wp2_with fail
                refine (C2.out _).mono ?_
                rintro en W' ⟨rfl, rfl⟩
                go_upto_region 30 with fail
                clear r_i q_i r_out q_out r_r q_r z_i z_out z_r
                obtain ⟨T', K'⟩ := HT.out.put 0 0 (.int .i64 11) rfl
                simp only [List.set_cons_zero, List.setIfInBounds_toArray] at T' K'
                replace HT := Lib.hid T'
                clear T' K'
                replace hz : w.heap.size + 1 + 1 ≤ ((W2.setCell ⟨gi, 0, none⟩ (.int .i64 11))).heap.size := by simpa using hz
                generalize W2.setCell ⟨gi, 0, none⟩ (.int .i64 11) = W36 at *
                obtain ⟨T', K'⟩ := HT.out.put 0 3 (.int .i64 c2) rfl
                simp only [List.set_cons_succ, List.set_cons_zero, List.setIfInBounds_toArray] at T' K'
                replace HT := Lib.hid T'
                clear T' K'
                replace hz : w.heap.size + 1 + 1 ≤ ((W36.setCell ⟨gi, 3, none⟩ (.int .i64 c2))).heap.size := by simpa using hz
                generalize W36.setCell ⟨gi, 3, none⟩ (.int .i64 c2) = W37 at *
                obtain ⟨r_i, q_i, r_out, q_out, r_r, q_r, -⟩ := HT.out.rules
                have z_i : gi < W37.heap.size := (HT.out.in_ 0 rfl rfl).2
                have z_out : w.heap.size + 1 < W37.heap.size := (HT.out.in_ 1 rfl rfl).2
                have z_r : w.heap.size < W37.heap.size := (HT.out.in_ 2 rfl rfl).2
                go_wp2_with fail
                clear r_i q_i r_out q_out r_r q_r z_i z_out z_r
                obtain ⟨T', K'⟩ := HT.out.put4 1 (.int .i64 11) (.int .i64 pa) (.int .i64 pb) (.int .i64 c2) rfl rfl
                simp only [List.set_cons_succ, List.set_cons_zero] at T' K'
                replace HT := Lib.hid T'
                clear T' K'
                replace hz : w.heap.size + 1 + 1 ≤ (((((W37.setCell ⟨w.heap.size + 1, 0, none⟩ (.int .i64 11)).setCell ⟨w.heap.size + 1, 1, none⟩ (.int .i64 pa)).setCell ⟨w.heap.size + 1, 2, none⟩ (.int .i64 pb)).setCell ⟨w.heap.size + 1, 3, none⟩ (.int .i64 c2))).heap.size := by simpa using hz
                generalize ((((W37.setCell ⟨w.heap.size + 1, 0, none⟩ (.int .i64 11)).setCell ⟨w.heap.size + 1, 1, none⟩ (.int .i64 pa)).setCell ⟨w.heap.size + 1, 2, none⟩ (.int .i64 pb)).setCell ⟨w.heap.size + 1, 3, none⟩ (.int .i64 c2)) = W38 at *
                obtain ⟨r_i, q_i, r_out, q_out, r_r, q_r, -⟩ := HT.out.rules
                have z_i : gi < W38.heap.size := (HT.out.in_ 0 rfl rfl).2
                have z_out : w.heap.size + 1 < W38.heap.size := (HT.out.in_ 1 rfl rfl).2
                have z_r : w.heap.size < W38.heap.size := (HT.out.in_ 2 rfl rfl).2
                try simp only [Exit.inBlock, Exit.then]
                refine bodyPost_ret (v := .agg #[.int .i64 11, .int .i64 pa, .int .i64 pb, .int .i64 c2]) (by simp [results, Tryd.results89, go_sem, r_out]) rfl ?_
                exact ⟨by rw [HE.out], HT.out.below⟩
              · by_cases t7 : p = 17
                · have HE : X = ⟨12, pa, pb, 0⟩ := HI.out.trans (by rw [if_neg t0]; rw [if_neg t1]; rw [if_neg t2]; rw [if_neg t3]; rw [if_neg t4]; rw [if_neg t5]; rw [if_neg t6]; rw [if_pos t7])
                  clear HI
                  replace HE := Lib.hid HE
                  have e7 : (p == 17) = true := by simpa using t7
                  have hne : gi ≠ w.heap.size + 1 := HT.out.ne 0 1 (by decide) rfl rfl rfl rfl
                  go_upto_region 30 with fail
                  clear r_i q_i r_out q_out r_r q_r z_i z_out z_r
                  obtain ⟨T', K'⟩ := HT.out.put 0 0 (.int .i64 12) rfl
                  simp only [List.set_cons_zero, List.setIfInBounds_toArray] at T' K'
                  replace HT := Lib.hid T'
                  clear T' K'
                  replace hz : w.heap.size + 1 + 1 ≤ ((W2.setCell ⟨gi, 0, none⟩ (.int .i64 12))).heap.size := by simpa using hz
                  generalize W2.setCell ⟨gi, 0, none⟩ (.int .i64 12) = W39 at *
                  obtain ⟨r_i, q_i, r_out, q_out, r_r, q_r, -⟩ := HT.out.rules
                  have z_i : gi < W39.heap.size := (HT.out.in_ 0 rfl rfl).2
                  have z_out : w.heap.size + 1 < W39.heap.size := (HT.out.in_ 1 rfl rfl).2
                  have z_r : w.heap.size < W39.heap.size := (HT.out.in_ 2 rfl rfl).2
                  go_wp2_with fail
                  clear r_i q_i r_out q_out r_r q_r z_i z_out z_r
                  obtain ⟨T', K'⟩ := HT.out.put4 1 (.int .i64 12) (.int .i64 pa) (.int .i64 pb) (.int .i64 0) rfl rfl
                  simp only [List.set_cons_succ, List.set_cons_zero] at T' K'
                  replace HT := Lib.hid T'
                  clear T' K'
                  replace hz : w.heap.size + 1 + 1 ≤ (((((W39.setCell ⟨w.heap.size + 1, 0, none⟩ (.int .i64 12)).setCell ⟨w.heap.size + 1, 1, none⟩ (.int .i64 pa)).setCell ⟨w.heap.size + 1, 2, none⟩ (.int .i64 pb)).setCell ⟨w.heap.size + 1, 3, none⟩ (.int .i64 0))).heap.size := by simpa using hz
                  generalize ((((W39.setCell ⟨w.heap.size + 1, 0, none⟩ (.int .i64 12)).setCell ⟨w.heap.size + 1, 1, none⟩ (.int .i64 pa)).setCell ⟨w.heap.size + 1, 2, none⟩ (.int .i64 pb)).setCell ⟨w.heap.size + 1, 3, none⟩ (.int .i64 0)) = W40 at *
                  obtain ⟨r_i, q_i, r_out, q_out, r_r, q_r, -⟩ := HT.out.rules
                  have z_i : gi < W40.heap.size := (HT.out.in_ 0 rfl rfl).2
                  have z_out : w.heap.size + 1 < W40.heap.size := (HT.out.in_ 1 rfl rfl).2
                  have z_r : w.heap.size < W40.heap.size := (HT.out.in_ 2 rfl rfl).2
                  try simp only [Exit.inBlock, Exit.then]
                  refine bodyPost_ret (v := .agg #[.int .i64 12, .int .i64 pa, .int .i64 pb, .int .i64 0]) (by simp [results, Tryd.results89, go_sem, r_out]) rfl ?_
                  exact ⟨by rw [HE.out], HT.out.below⟩
                · by_cases t8 : p < 20
                  · have HE : X = ⟨13, pa, pb, 0⟩ := HI.out.trans (by rw [if_neg t0]; rw [if_neg t1]; rw [if_neg t2]; rw [if_neg t3]; rw [if_neg t4]; rw [if_neg t5]; rw [if_neg t6]; rw [if_neg t7]; rw [if_pos t8])
                    clear HI
                    replace HE := Lib.hid HE
                    have e7 : (p == 17) = false := by simpa using t7
                    have hne : gi ≠ w.heap.size + 1 := HT.out.ne 0 1 (by decide) rfl rfl rfl rfl
                    go_upto_region 30 with fail
                    clear r_i q_i r_out q_out r_r q_r z_i z_out z_r
                    obtain ⟨T', K'⟩ := HT.out.put 0 0 (.int .i64 13) rfl
                    simp only [List.set_cons_zero, List.setIfInBounds_toArray] at T' K'
                    replace HT := Lib.hid T'
                    clear T' K'
                    replace hz : w.heap.size + 1 + 1 ≤ ((W2.setCell ⟨gi, 0, none⟩ (.int .i64 13))).heap.size := by simpa using hz
                    generalize W2.setCell ⟨gi, 0, none⟩ (.int .i64 13) = W41 at *
                    obtain ⟨r_i, q_i, r_out, q_out, r_r, q_r, -⟩ := HT.out.rules
                    have z_i : gi < W41.heap.size := (HT.out.in_ 0 rfl rfl).2
                    have z_out : w.heap.size + 1 < W41.heap.size := (HT.out.in_ 1 rfl rfl).2
                    have z_r : w.heap.size < W41.heap.size := (HT.out.in_ 2 rfl rfl).2
                    go_wp2_with fail
                    clear r_i q_i r_out q_out r_r q_r z_i z_out z_r
                    obtain ⟨T', K'⟩ := HT.out.put4 1 (.int .i64 13) (.int .i64 pa) (.int .i64 pb) (.int .i64 0) rfl rfl
                    simp only [List.set_cons_succ, List.set_cons_zero] at T' K'
                    replace HT := Lib.hid T'
                    clear T' K'
                    replace hz : w.heap.size + 1 + 1 ≤ (((((W41.setCell ⟨w.heap.size + 1, 0, none⟩ (.int .i64 13)).setCell ⟨w.heap.size + 1, 1, none⟩ (.int .i64 pa)).setCell ⟨w.heap.size + 1, 2, none⟩ (.int .i64 pb)).setCell ⟨w.heap.size + 1, 3, none⟩ (.int .i64 0))).heap.size := by simpa using hz
                    generalize ((((W41.setCell ⟨w.heap.size + 1, 0, none⟩ (.int .i64 13)).setCell ⟨w.heap.size + 1, 1, none⟩ (.int .i64 pa)).setCell ⟨w.heap.size + 1, 2, none⟩ (.int .i64 pb)).setCell ⟨w.heap.size + 1, 3, none⟩ (.int .i64 0)) = W42 at *
                    obtain ⟨r_i, q_i, r_out, q_out, r_r, q_r, -⟩ := HT.out.rules
                    have z_i : gi < W42.heap.size := (HT.out.in_ 0 rfl rfl).2
                    have z_out : w.heap.size + 1 < W42.heap.size := (HT.out.in_ 1 rfl rfl).2
                    have z_r : w.heap.size < W42.heap.size := (HT.out.in_ 2 rfl rfl).2
                    try simp only [Exit.inBlock, Exit.then]
                    refine bodyPost_ret (v := .agg #[.int .i64 13, .int .i64 pa, .int .i64 pb, .int .i64 0]) (by simp [results, Tryd.results89, go_sem, r_out]) rfl ?_
                    exact ⟨by rw [HE.out], HT.out.below⟩
                  · by_cases t9 : p = 20
                    · have HE : X = ⟨14, pa, pb, 0⟩ := HI.out.trans (by rw [if_neg t0]; rw [if_neg t1]; rw [if_neg t2]; rw [if_neg t3]; rw [if_neg t4]; rw [if_neg t5]; rw [if_neg t6]; rw [if_neg t7]; rw [if_neg t8]; rw [if_pos t9])
                      clear HI
                      replace HE := Lib.hid HE
                      have e7 : (p == 17) = false := by simpa using t7
                      have e9 : (p == 20) = true := by simpa using t9
                      have hne : gi ≠ w.heap.size + 1 := HT.out.ne 0 1 (by decide) rfl rfl rfl rfl
                      go_upto_region 30 with fail
                      clear r_i q_i r_out q_out r_r q_r z_i z_out z_r
                      obtain ⟨T', K'⟩ := HT.out.put 0 0 (.int .i64 14) rfl
                      simp only [List.set_cons_zero, List.setIfInBounds_toArray] at T' K'
                      replace HT := Lib.hid T'
                      clear T' K'
                      replace hz : w.heap.size + 1 + 1 ≤ ((W2.setCell ⟨gi, 0, none⟩ (.int .i64 14))).heap.size := by simpa using hz
                      generalize W2.setCell ⟨gi, 0, none⟩ (.int .i64 14) = W43 at *
                      obtain ⟨r_i, q_i, r_out, q_out, r_r, q_r, -⟩ := HT.out.rules
                      have z_i : gi < W43.heap.size := (HT.out.in_ 0 rfl rfl).2
                      have z_out : w.heap.size + 1 < W43.heap.size := (HT.out.in_ 1 rfl rfl).2
                      have z_r : w.heap.size < W43.heap.size := (HT.out.in_ 2 rfl rfl).2
                      go_wp2_with fail
                      clear r_i q_i r_out q_out r_r q_r z_i z_out z_r
                      obtain ⟨T', K'⟩ := HT.out.put4 1 (.int .i64 14) (.int .i64 pa) (.int .i64 pb) (.int .i64 0) rfl rfl
                      simp only [List.set_cons_succ, List.set_cons_zero] at T' K'
                      replace HT := Lib.hid T'
                      clear T' K'
                      replace hz : w.heap.size + 1 + 1 ≤ (((((W43.setCell ⟨w.heap.size + 1, 0, none⟩ (.int .i64 14)).setCell ⟨w.heap.size + 1, 1, none⟩ (.int .i64 pa)).setCell ⟨w.heap.size + 1, 2, none⟩ (.int .i64 pb)).setCell ⟨w.heap.size + 1, 3, none⟩ (.int .i64 0))).heap.size := by simpa using hz
                      generalize ((((W43.setCell ⟨w.heap.size + 1, 0, none⟩ (.int .i64 14)).setCell ⟨w.heap.size + 1, 1, none⟩ (.int .i64 pa)).setCell ⟨w.heap.size + 1, 2, none⟩ (.int .i64 pb)).setCell ⟨w.heap.size + 1, 3, none⟩ (.int .i64 0)) = W44 at *
                      obtain ⟨r_i, q_i, r_out, q_out, r_r, q_r, -⟩ := HT.out.rules
                      have z_i : gi < W44.heap.size := (HT.out.in_ 0 rfl rfl).2
                      have z_out : w.heap.size + 1 < W44.heap.size := (HT.out.in_ 1 rfl rfl).2
                      have z_r : w.heap.size < W44.heap.size := (HT.out.in_ 2 rfl rfl).2
                      try simp only [Exit.inBlock, Exit.then]
                      refine bodyPost_ret (v := .agg #[.int .i64 14, .int .i64 pa, .int .i64 pb, .int .i64 0]) (by simp [results, Tryd.results89, go_sem, r_out]) rfl ?_
                      exact ⟨by rw [HE.out], HT.out.below⟩
                    · by_cases t10 : p < 23
                      · have HE : X = ⟨15, pa, 0, 0⟩ := HI.out.trans (by rw [if_neg t0]; rw [if_neg t1]; rw [if_neg t2]; rw [if_neg t3]; rw [if_neg t4]; rw [if_neg t5]; rw [if_neg t6]; rw [if_neg t7]; rw [if_neg t8]; rw [if_neg t9]; rw [if_pos t10])
                        clear HI
                        replace HE := Lib.hid HE
                        have e7 : (p == 17) = false := by simpa using t7
                        have e9 : (p == 20) = false := by simpa using t9
                        have hne : gi ≠ w.heap.size + 1 := HT.out.ne 0 1 (by decide) rfl rfl rfl rfl
                        go_upto_region 30 with fail
                        clear r_i q_i r_out q_out r_r q_r z_i z_out z_r
                        obtain ⟨T', K'⟩ := HT.out.put 0 0 (.int .i64 15) rfl
                        simp only [List.set_cons_zero, List.setIfInBounds_toArray] at T' K'
                        replace HT := Lib.hid T'
                        clear T' K'
                        replace hz : w.heap.size + 1 + 1 ≤ ((W2.setCell ⟨gi, 0, none⟩ (.int .i64 15))).heap.size := by simpa using hz
                        generalize W2.setCell ⟨gi, 0, none⟩ (.int .i64 15) = W45 at *
                        obtain ⟨T', K'⟩ := HT.out.put 0 2 (.int .i64 0) rfl
                        simp only [List.set_cons_succ, List.set_cons_zero, List.setIfInBounds_toArray] at T' K'
                        replace HT := Lib.hid T'
                        clear T' K'
                        replace hz : w.heap.size + 1 + 1 ≤ ((W45.setCell ⟨gi, 2, none⟩ (.int .i64 0))).heap.size := by simpa using hz
                        generalize W45.setCell ⟨gi, 2, none⟩ (.int .i64 0) = W46 at *
                        obtain ⟨r_i, q_i, r_out, q_out, r_r, q_r, -⟩ := HT.out.rules
                        have z_i : gi < W46.heap.size := (HT.out.in_ 0 rfl rfl).2
                        have z_out : w.heap.size + 1 < W46.heap.size := (HT.out.in_ 1 rfl rfl).2
                        have z_r : w.heap.size < W46.heap.size := (HT.out.in_ 2 rfl rfl).2
                        go_wp2_with fail
                        clear r_i q_i r_out q_out r_r q_r z_i z_out z_r
                        obtain ⟨T', K'⟩ := HT.out.put4 1 (.int .i64 15) (.int .i64 pa) (.int .i64 0) (.int .i64 0) rfl rfl
                        simp only [List.set_cons_succ, List.set_cons_zero] at T' K'
                        replace HT := Lib.hid T'
                        clear T' K'
                        replace hz : w.heap.size + 1 + 1 ≤ (((((W46.setCell ⟨w.heap.size + 1, 0, none⟩ (.int .i64 15)).setCell ⟨w.heap.size + 1, 1, none⟩ (.int .i64 pa)).setCell ⟨w.heap.size + 1, 2, none⟩ (.int .i64 0)).setCell ⟨w.heap.size + 1, 3, none⟩ (.int .i64 0))).heap.size := by simpa using hz
                        generalize ((((W46.setCell ⟨w.heap.size + 1, 0, none⟩ (.int .i64 15)).setCell ⟨w.heap.size + 1, 1, none⟩ (.int .i64 pa)).setCell ⟨w.heap.size + 1, 2, none⟩ (.int .i64 0)).setCell ⟨w.heap.size + 1, 3, none⟩ (.int .i64 0)) = W47 at *
                        obtain ⟨r_i, q_i, r_out, q_out, r_r, q_r, -⟩ := HT.out.rules
                        have z_i : gi < W47.heap.size := (HT.out.in_ 0 rfl rfl).2
                        have z_out : w.heap.size + 1 < W47.heap.size := (HT.out.in_ 1 rfl rfl).2
                        have z_r : w.heap.size < W47.heap.size := (HT.out.in_ 2 rfl rfl).2
                        try simp only [Exit.inBlock, Exit.then]
                        refine bodyPost_ret (v := .agg #[.int .i64 15, .int .i64 pa, .int .i64 0, .int .i64 0]) (by simp [results, Tryd.results89, go_sem, r_out]) rfl ?_
                        exact ⟨by rw [HE.out], HT.out.below⟩
                      · by_cases t11 : p = 23
                        · have HE : X = ⟨16, pa, 0, 0⟩ := HI.out.trans (by rw [if_neg t0]; rw [if_neg t1]; rw [if_neg t2]; rw [if_neg t3]; rw [if_neg t4]; rw [if_neg t5]; rw [if_neg t6]; rw [if_neg t7]; rw [if_neg t8]; rw [if_neg t9]; rw [if_neg t10]; rw [if_pos t11])
                          clear HI
                          replace HE := Lib.hid HE
                          have e7 : (p == 17) = false := by simpa using t7
                          have e9 : (p == 20) = false := by simpa using t9
                          have e11 : (p == 23) = true := by simpa using t11
                          have hne : gi ≠ w.heap.size + 1 := HT.out.ne 0 1 (by decide) rfl rfl rfl rfl
                          go_upto_region 30 with fail
                          clear r_i q_i r_out q_out r_r q_r z_i z_out z_r
                          obtain ⟨T', K'⟩ := HT.out.put 0 0 (.int .i64 16) rfl
                          simp only [List.set_cons_zero, List.setIfInBounds_toArray] at T' K'
                          replace HT := Lib.hid T'
                          clear T' K'
                          replace hz : w.heap.size + 1 + 1 ≤ ((W2.setCell ⟨gi, 0, none⟩ (.int .i64 16))).heap.size := by simpa using hz
                          generalize W2.setCell ⟨gi, 0, none⟩ (.int .i64 16) = W48 at *
                          obtain ⟨T', K'⟩ := HT.out.put 0 2 (.int .i64 0) rfl
                          simp only [List.set_cons_succ, List.set_cons_zero, List.setIfInBounds_toArray] at T' K'
                          replace HT := Lib.hid T'
                          clear T' K'
                          replace hz : w.heap.size + 1 + 1 ≤ ((W48.setCell ⟨gi, 2, none⟩ (.int .i64 0))).heap.size := by simpa using hz
                          generalize W48.setCell ⟨gi, 2, none⟩ (.int .i64 0) = W49 at *
                          obtain ⟨r_i, q_i, r_out, q_out, r_r, q_r, -⟩ := HT.out.rules
                          have z_i : gi < W49.heap.size := (HT.out.in_ 0 rfl rfl).2
                          have z_out : w.heap.size + 1 < W49.heap.size := (HT.out.in_ 1 rfl rfl).2
                          have z_r : w.heap.size < W49.heap.size := (HT.out.in_ 2 rfl rfl).2
                          go_wp2_with fail
                          clear r_i q_i r_out q_out r_r q_r z_i z_out z_r
                          obtain ⟨T', K'⟩ := HT.out.put4 1 (.int .i64 16) (.int .i64 pa) (.int .i64 0) (.int .i64 0) rfl rfl
                          simp only [List.set_cons_succ, List.set_cons_zero] at T' K'
                          replace HT := Lib.hid T'
                          clear T' K'
                          replace hz : w.heap.size + 1 + 1 ≤ (((((W49.setCell ⟨w.heap.size + 1, 0, none⟩ (.int .i64 16)).setCell ⟨w.heap.size + 1, 1, none⟩ (.int .i64 pa)).setCell ⟨w.heap.size + 1, 2, none⟩ (.int .i64 0)).setCell ⟨w.heap.size + 1, 3, none⟩ (.int .i64 0))).heap.size := by simpa using hz
                          generalize ((((W49.setCell ⟨w.heap.size + 1, 0, none⟩ (.int .i64 16)).setCell ⟨w.heap.size + 1, 1, none⟩ (.int .i64 pa)).setCell ⟨w.heap.size + 1, 2, none⟩ (.int .i64 0)).setCell ⟨w.heap.size + 1, 3, none⟩ (.int .i64 0)) = W50 at *
                          obtain ⟨r_i, q_i, r_out, q_out, r_r, q_r, -⟩ := HT.out.rules
                          have z_i : gi < W50.heap.size := (HT.out.in_ 0 rfl rfl).2
                          have z_out : w.heap.size + 1 < W50.heap.size := (HT.out.in_ 1 rfl rfl).2
                          have z_r : w.heap.size < W50.heap.size := (HT.out.in_ 2 rfl rfl).2
                          try simp only [Exit.inBlock, Exit.then]
                          refine bodyPost_ret (v := .agg #[.int .i64 16, .int .i64 pa, .int .i64 0, .int .i64 0]) (by simp [results, Tryd.results89, go_sem, r_out]) rfl ?_
                          exact ⟨by rw [HE.out], HT.out.below⟩
                        · by_cases t12 : p = 24
                          · have HE : X = ⟨17, pa, pb, c3⟩ := HI.out.trans (by rw [if_neg t0]; rw [if_neg t1]; rw [if_neg t2]; rw [if_neg t3]; rw [if_neg t4]; rw [if_neg t5]; rw [if_neg t6]; rw [if_neg t7]; rw [if_neg t8]; rw [if_neg t9]; rw [if_neg t10]; rw [if_neg t11]; rw [if_pos t12])
                            clear HI
                            replace HE := Lib.hid HE
                            have e7 : (p == 17) = false := by simpa using t7
                            have e9 : (p == 20) = false := by simpa using t9
                            have e11 : (p == 23) = false := by simpa using t11
                            have e12 : (p == 24) = true := by simpa using t12
                            have hne : gi ≠ w.heap.size + 1 := HT.out.ne 0 1 (by decide) rfl rfl rfl rfl
                            go_wp2_with fail
                            refine (C3.out _).mono ?_
                            rintro en W' ⟨rfl, rfl⟩
                            go_upto_region 30 with fail
                            clear r_i q_i r_out q_out r_r q_r z_i z_out z_r
                            obtain ⟨T', K'⟩ := HT.out.put 0 0 (.int .i64 17) rfl
                            simp only [List.set_cons_zero, List.setIfInBounds_toArray] at T' K'
                            replace HT := Lib.hid T'
                            clear T' K'
                            replace hz : w.heap.size + 1 + 1 ≤ ((W2.setCell ⟨gi, 0, none⟩ (.int .i64 17))).heap.size := by simpa using hz
                            generalize W2.setCell ⟨gi, 0, none⟩ (.int .i64 17) = W51 at *
                            obtain ⟨T', K'⟩ := HT.out.put 0 3 (.int .i64 c3) rfl
                            simp only [List.set_cons_succ, List.set_cons_zero, List.setIfInBounds_toArray] at T' K'
                            replace HT := Lib.hid T'
                            clear T' K'
                            replace hz : w.heap.size + 1 + 1 ≤ ((W51.setCell ⟨gi, 3, none⟩ (.int .i64 c3))).heap.size := by simpa using hz
                            generalize W51.setCell ⟨gi, 3, none⟩ (.int .i64 c3) = W52 at *
                            obtain ⟨r_i, q_i, r_out, q_out, r_r, q_r, -⟩ := HT.out.rules
                            have z_i : gi < W52.heap.size := (HT.out.in_ 0 rfl rfl).2
                            have z_out : w.heap.size + 1 < W52.heap.size := (HT.out.in_ 1 rfl rfl).2
                            have z_r : w.heap.size < W52.heap.size := (HT.out.in_ 2 rfl rfl).2
                            go_wp2_with fail
                            clear r_i q_i r_out q_out r_r q_r z_i z_out z_r
                            obtain ⟨T', K'⟩ := HT.out.put4 1 (.int .i64 17) (.int .i64 pa) (.int .i64 pb) (.int .i64 c3) rfl rfl
                            simp only [List.set_cons_succ, List.set_cons_zero] at T' K'
                            replace HT := Lib.hid T'
                            clear T' K'
                            replace hz : w.heap.size + 1 + 1 ≤ (((((W52.setCell ⟨w.heap.size + 1, 0, none⟩ (.int .i64 17)).setCell ⟨w.heap.size + 1, 1, none⟩ (.int .i64 pa)).setCell ⟨w.heap.size + 1, 2, none⟩ (.int .i64 pb)).setCell ⟨w.heap.size + 1, 3, none⟩ (.int .i64 c3))).heap.size := by simpa using hz
                            generalize ((((W52.setCell ⟨w.heap.size + 1, 0, none⟩ (.int .i64 17)).setCell ⟨w.heap.size + 1, 1, none⟩ (.int .i64 pa)).setCell ⟨w.heap.size + 1, 2, none⟩ (.int .i64 pb)).setCell ⟨w.heap.size + 1, 3, none⟩ (.int .i64 c3)) = W53 at *
                            obtain ⟨r_i, q_i, r_out, q_out, r_r, q_r, -⟩ := HT.out.rules
                            have z_i : gi < W53.heap.size := (HT.out.in_ 0 rfl rfl).2
                            have z_out : w.heap.size + 1 < W53.heap.size := (HT.out.in_ 1 rfl rfl).2
                            have z_r : w.heap.size < W53.heap.size := (HT.out.in_ 2 rfl rfl).2
                            try simp only [Exit.inBlock, Exit.then]
                            refine bodyPost_ret (v := .agg #[.int .i64 17, .int .i64 pa, .int .i64 pb, .int .i64 c3]) (by simp [results, Tryd.results89, go_sem, r_out]) rfl ?_
                            exact ⟨by rw [HE.out], HT.out.below⟩
                          · have HE : X = ⟨18, pa, 0, 0⟩ := HI.out.trans (by rw [if_neg t0]; rw [if_neg t1]; rw [if_neg t2]; rw [if_neg t3]; rw [if_neg t4]; rw [if_neg t5]; rw [if_neg t6]; rw [if_neg t7]; rw [if_neg t8]; rw [if_neg t9]; rw [if_neg t10]; rw [if_neg t11]; rw [if_neg t12])
                            clear HI
                            replace HE := Lib.hid HE
                            have e7 : (p == 17) = false := by simpa using t7
                            have e9 : (p == 20) = false := by simpa using t9
                            have e11 : (p == 23) = false := by simpa using t11
                            have e12 : (p == 24) = false := by simpa using t12
                            have hne : gi ≠ w.heap.size + 1 := HT.out.ne 0 1 (by decide) rfl rfl rfl rfl
                            go_upto_region 30 with fail
                            clear r_i q_i r_out q_out r_r q_r z_i z_out z_r
                            obtain ⟨T', K'⟩ := HT.out.put 0 0 (.int .i64 18) rfl
                            simp only [List.set_cons_zero, List.setIfInBounds_toArray] at T' K'
                            replace HT := Lib.hid T'
                            clear T' K'
                            replace hz : w.heap.size + 1 + 1 ≤ ((W2.setCell ⟨gi, 0, none⟩ (.int .i64 18))).heap.size := by simpa using hz
                            generalize W2.setCell ⟨gi, 0, none⟩ (.int .i64 18) = W54 at *
                            obtain ⟨T', K'⟩ := HT.out.put 0 2 (.int .i64 0) rfl
                            simp only [List.set_cons_succ, List.set_cons_zero, List.setIfInBounds_toArray] at T' K'
                            replace HT := Lib.hid T'
                            clear T' K'
                            replace hz : w.heap.size + 1 + 1 ≤ ((W54.setCell ⟨gi, 2, none⟩ (.int .i64 0))).heap.size := by simpa using hz
                            generalize W54.setCell ⟨gi, 2, none⟩ (.int .i64 0) = W55 at *
                            obtain ⟨r_i, q_i, r_out, q_out, r_r, q_r, -⟩ := HT.out.rules
                            have z_i : gi < W55.heap.size := (HT.out.in_ 0 rfl rfl).2
                            have z_out : w.heap.size + 1 < W55.heap.size := (HT.out.in_ 1 rfl rfl).2
                            have z_r : w.heap.size < W55.heap.size := (HT.out.in_ 2 rfl rfl).2
                            go_wp2_with fail
                            clear r_i q_i r_out q_out r_r q_r z_i z_out z_r
                            obtain ⟨T', K'⟩ := HT.out.put4 1 (.int .i64 18) (.int .i64 pa) (.int .i64 0) (.int .i64 0) rfl rfl
                            simp only [List.set_cons_succ, List.set_cons_zero] at T' K'
                            replace HT := Lib.hid T'
                            clear T' K'
                            replace hz : w.heap.size + 1 + 1 ≤ (((((W55.setCell ⟨w.heap.size + 1, 0, none⟩ (.int .i64 18)).setCell ⟨w.heap.size + 1, 1, none⟩ (.int .i64 pa)).setCell ⟨w.heap.size + 1, 2, none⟩ (.int .i64 0)).setCell ⟨w.heap.size + 1, 3, none⟩ (.int .i64 0))).heap.size := by simpa using hz
                            generalize ((((W55.setCell ⟨w.heap.size + 1, 0, none⟩ (.int .i64 18)).setCell ⟨w.heap.size + 1, 1, none⟩ (.int .i64 pa)).setCell ⟨w.heap.size + 1, 2, none⟩ (.int .i64 0)).setCell ⟨w.heap.size + 1, 3, none⟩ (.int .i64 0)) = W56 at *
                            obtain ⟨r_i, q_i, r_out, q_out, r_r, q_r, -⟩ := HT.out.rules
                            have z_i : gi < W56.heap.size := (HT.out.in_ 0 rfl rfl).2
                            have z_out : w.heap.size + 1 < W56.heap.size := (HT.out.in_ 1 rfl rfl).2
                            have z_r : w.heap.size < W56.heap.size := (HT.out.in_ 2 rfl rfl).2
                            try simp only [Exit.inBlock, Exit.then]
                            refine bodyPost_ret (v := .agg #[.int .i64 18, .int .i64 pa, .int .i64 0, .int .i64 0]) (by simp [results, Tryd.results89, go_sem, r_out]) rfl ?_
                            exact ⟨by rw [HE.out], HT.out.below⟩
end
section
open Go.RowKit
theorem infoIns : (Tryd.prog.info? 42).map (fun i => (i.zero, i.size, i.bytes)) = some (some (.agg #[.int .i64 0, .int .i64 0, .int .i64 0, .int .i64 0]), 4, 32) := by kernel_rfl
set_option maxRecDepth 100000 in
set_option maxHeartbeats 8000000 in
theorem rightK_any (S : Nat → Prop) (A : Option Addr) (c : Nat) (l : List Ins) (w : World) (hl : l.length ≤ 1000) (hu : UsesAt w) (hr : RdSl insE w S (.slice A l.length c) l) :
    Calls Tryd.prog 90 #[.slice A l.length c] w fun e w' => e = .returned (.bool (rightK l)) ∧ Below w.heap.size w w' := by
  rw [show rightK l = ((verP [l ++ [doneI], [doneI], [doneI]]).2.2 == 0) from rfl]
  generalize hv : verP [l ++ [doneI], [doneI], [doneI]] = r
  have HV := Lib.hid hv
  clear hv
  obtain ⟨-, h1, h2, h3⟩ := hr.lims
  have Hr := Lib.hid hr
  have Hu := Lib.hid hu
  clear hr hu h3
  have T0 : St w.heap.size w w [] := St.start w (Nat.le_refl _)
  have HT := Lib.hid T0
  have hz : w.heap.size ≤ w.heap.size := by simp
  clear T0
  replace Hr : Hid (RdSl insE w (Fr 0 []) (.slice A l.length c) l) := Lib.hid (Hr.out.pool (by decide) HT.out)
  go_enter Tryd.func90, Tryd.ntmps90
  go_upto_region 2 with fail
  obtain ⟨T', K'⟩ := HT.out.new' #[.int .i64 0, .int .i64 0, .int .i64 0, .int .i64 0] 42 w.heap.size (by first | (simp; done) | rfl)
  replace HT := Lib.hid T'
  replace Hr := Lib.hid (Hr.out.move (by decide) K')
  clear T' K'
  generalize (w.alloc (.cells #[.int .i64 0, .int .i64 0, .int .i64 0, .int .i64 0] 42)) = W1 at *
  obtain ⟨r_d, q_d, -⟩ := HT.out.rules
  have z_d : w.heap.size < W1.heap.size := (HT.out.in_ 0 rfl rfl).2
  obtain ⟨T', K'⟩ := HT.out.nilRow w.heap.size 42 4
  replace HT := Lib.hid T'
  replace Hr := Lib.hid (Hr.out.move (by decide) K')
  clear T' K'
  go_wp2_with (at_builtin; go_loud (refine wpList_append_stx rfl (.const (.slice none 0 0)) (.tmp 10) _ rfl (e := 42) (size := 4) (bytes := 32) Tryd.underlying43 infoIns rfl (by omega) HT.out 0 rfl rfl A l.length c (cat (ncs l)) rfl (ncs_len _) (rdN_cells Hr.out) (fun h => rd_none Hr.out h) (ncs_one _) (by unfold maxLen; omega) (by omega) HT.out.base ?next))
  case next =>
    intro A2 c3 W4 T' K' hs3
    try rw [Nat.zero_add] at T' K'
    try rw [Nat.zero_add]
    clear r_d q_d z_d
    replace T' : St w.heap.size w W4 [.row w.heap.size 42 4 (.slice A2 l.length c3) l.length (cat (ncs l)), .blk w.heap.size #[.int .i64 0, .int .i64 0, .int .i64 0, .int .i64 0] 42] := T'
    replace K' : Keeps W1 [.row w.heap.size 42 4 (.slice none 0 0) 0 (cat []), .blk w.heap.size #[.int .i64 0, .int .i64 0, .int .i64 0, .int .i64 0] 42] W4 [.row w.heap.size 42 4 (.slice A2 l.length c3) l.length (cat (ncs l)), .blk w.heap.size #[.int .i64 0, .int .i64 0, .int .i64 0, .int .i64 0] 42] := K'
    replace HT := Lib.hid T'
    replace Hr := Lib.hid (Hr.out.move (by decide) K')
    clear T' K'
    obtain ⟨r_d, q_d, -⟩ := HT.out.rules
    have z_d : w.heap.size < W4.heap.size := (HT.out.in_ 1 rfl rfl).2
    go_wp2_with (at_builtin; go_loud (refine wpList_append_css rfl (.tmp 11) (.tmp 13) _ rfl (e := 42) (size := 4) (bytes := 32) Tryd.underlying43 infoIns rfl (by omega) HT.out 0 rfl rfl (nc doneI) 42 rfl rfl (nc_one _) (by unfold maxLen; omega) (by omega) HT.out.base ?next))
    case next =>
      intro A5 c6 W7 T' K' hs3
      try rw [show ncs l ++ [nc doneI] = ncs (l ++ [doneI]) by simp [ncs]] at T' K'
      clear r_d q_d z_d
      replace T' : St w.heap.size w W7 [.row w.heap.size 42 4 (.slice A5 (l.length + 1) c6) (l.length + 1) (cat (ncs (l ++ [doneI]))), .blk w.heap.size #[.int .i64 0, .int .i64 0, .int .i64 0, .int .i64 0] 42] := T'
      replace K' : Keeps W4 [.row w.heap.size 42 4 (.slice A2 l.length c3) l.length (cat (ncs l)), .blk w.heap.size #[.int .i64 0, .int .i64 0, .int .i64 0, .int .i64 0] 42] W7 [.row w.heap.size 42 4 (.slice A5 (l.length + 1) c6) (l.length + 1) (cat (ncs (l ++ [doneI]))), .blk w.heap.size #[.int .i64 0, .int .i64 0, .int .i64 0, .int .i64 0] 42] := K'
      replace HT := Lib.hid T'
      replace Hr := Lib.hid (Hr.out.move (by decide) K')
      clear T' K'
      obtain ⟨r_d, q_d, -⟩ := HT.out.rules
      have z_d : w.heap.size < W7.heap.size := (HT.out.in_ 1 rfl rfl).2
      go_wp2_with fail
      obtain ⟨T', K'⟩ := HT.out.new' #[.slice A5 (l.length + 1) c6, .slice (some ⟨w.heap.size, 0, none⟩) 1 1, .slice (some ⟨w.heap.size, 0, none⟩) 1 1] 43 W7.heap.size (by first | (simp; done) | rfl)
      replace HT := Lib.hid T'
      replace Hr := Lib.hid (Hr.out.move (by decide) K')
      clear T' K'
      clear r_d q_d z_d
      generalize (W7.alloc (.cells #[.slice A5 (l.length + 1) c6, .slice (some ⟨w.heap.size, 0, none⟩) 1 1, .slice (some ⟨w.heap.size, 0, none⟩) 1 1] 43)) = W8 at *
      obtain ⟨r_m, q_m, r_d, q_d, -⟩ := HT.out.rules
      have z_m : W7.heap.size < W8.heap.size := (HT.out.in_ 0 rfl rfl).2
      have z_d : w.heap.size < W8.heap.size := (HT.out.in_ 2 rfl rfl).2
      have r1 : RdSl insE W8 (fun _ => True) (.slice (some ⟨w.heap.size, 0, none⟩) 1 1) [doneI] := rd_lit (HT.out.heap 2 rfl) trivial (ncs_held [doneI]) rfl (by decide) (by decide) 1 rfl
      have r2 : RdSl insE W8 (fun _ => True) (.slice A5 (l.length + 1) c6) (l ++ [doneI]) := (HT.out.rdRow (E := insE) (n := 0) 1 rfl rfl (by simp) (ncs_held _) (by simp; show (l.length + 1) * 32 ≤ _; omega) (Nat.zero_le _) (by decide)).keep (by decide) (fun _ _ _ => ⟨trivial, rfl⟩)
      have r3 : RdSl pgE W8 (fun _ => True) (.slice (some ⟨W7.heap.size, 0, none⟩) 3 3) [l ++ [doneI], [doneI], [doneI]] := rd_lit (E := pgE) (css := [[.slice A5 (l.length + 1) c6], [.slice (some ⟨w.heap.size, 0, none⟩) 1 1], [.slice (some ⟨w.heap.size, 0, none⟩) 1 1]]) (HT.out.heap 0 rfl) trivial (Held.cons rfl ⟨_, rfl, r2⟩ (Held.cons rfl ⟨_, rfl, r1⟩ (Held.cons rfl ⟨_, rfl, r1⟩ Held.nil))) rfl (by show 3 * 24 ≤ 140737488355328; decide) (by show 3 ≤ maxLen; decide) 3 rfl
      have R3 := Lib.hid r3
      clear r1 r2 r3
      have G := verCheck_any (fun _ => True) (some ⟨W7.heap.size, 0, none⟩) 3 [l ++ [doneI], [doneI], [doneI]] W8 (Hu.out.below HT.out.below) R3.out
      rw [HV.out] at G
      clear R3
      dsimp only [List.length] at G
      refine G.mono ?_
      rintro en W9 ⟨rfl, hb⟩
      clear G
      clear r_m q_m r_d q_d z_m z_d
      obtain ⟨T', K'⟩ := HT.out.call hb
      replace HT := Lib.hid T'
      replace Hr := Lib.hid (Hr.out.move (by decide) K')
      clear T' K'
      clear hb
      obtain ⟨r_m, q_m, r_d, q_d, -⟩ := HT.out.rules
      have z_m : W7.heap.size < W9.heap.size := (HT.out.in_ 0 rfl rfl).2
      have z_d : w.heap.size < W9.heap.size := (HT.out.in_ 2 rfl rfl).2
      go_wp2_with fail
      go_ret
      exact ⟨rfl, HT.out.below⟩
end
section
open Go.RowKit
theorem wf_rng8 {a : Int} (h : (Lit.int .i64 a).wf = true) : -9223372036854775808 ≤ a ∧ a ≤ 9223372036854775807 := by
  simp [Lit.wf, IntKind.min, IntKind.max, IntKind.signed, IntKind.bits] at h
  exact ⟨by omega, by omega⟩
theorem tdiv_rng {k : Int} (h : -9223372036854775808 ≤ k ∧ k ≤ 9223372036854775807) : -9223372036854775808 ≤ k.tdiv 26 ∧ k.tdiv 26 ≤ 9223372036854775807 := by
  rcases Int.le_total 0 k with h0 | h0
  · rw [Int.tdiv_eq_ediv_of_nonneg h0]; omega
  · have e : k.tdiv 26 = -((-k) / 26) := by
      rw [show k = -(-k) by omega, Int.neg_tdiv, Int.tdiv_eq_ediv_of_nonneg (by omega)]
      simp
    omega
set_option maxRecDepth 100000 in
set_option maxHeartbeats 16000000 in
theorem behaviorK_any (S : Nat → Prop) (A : Option Addr) (c : Nat) (l : List Rw) (most : Int) (w : World) (hm : 0 ≤ most ∧ most ≤ 50) (hu : UsesAt w) (hr : RdSl rwE w S (.slice A l.length c) l) :
    Calls Tryd.prog 52 #[.slice A l.length c, .int .i64 most] w fun e w' => ∃ v, e = .returned v ∧ OwnSl insE w' (fun _ => False) w.heap.size 42 v (behaviorK l most) ∧ Below w.heap.size w w' := by
  obtain ⟨-, h1, h2, h3⟩ := hr.lims
  have Hr := Lib.hid hr
  have Hu := Lib.hid hu
  clear hr hu
  have T0 : St w.heap.size w w [] := St.start w (Nat.le_refl _)
  have HT := Lib.hid T0
  have hz : w.heap.size ≤ w.heap.size := by simp
  clear T0
  replace Hr : Hid (RdSl rwE w (Fr 0 []) (.slice A l.length c) l) := Lib.hid (Hr.out.pool (by decide) HT.out)
  obtain ⟨T', K'⟩ := HT.out.nilRow w.heap.size 42 4
  replace HT := Lib.hid T'
  replace Hr := Lib.hid (Hr.out.move (by decide) K')
  clear T' K'
  go_enter Tryd.func52, Tryd.ntmps52
  go_wp2_with fail
  go_loopw [6, 5] (fun i vs wl1 => ∃ (j : Nat) (vo : Value), i = .int .i64 j ∧ vo = vs ∧ j ≤ l.length ∧ St w.heap.size w wl1 [.row w.heap.size 42 4 vo ((behK most l j).length) (cat (ncs (behK most l j)))] ∧ RdSl rwE wl1 (Fr 0 [.row w.heap.size 42 4 vo ((behK most l j).length) (cat (ncs (behK most l j)))]) (.slice A l.length c) l) (fun i _ _ => l.length - (intOf i).toNat)
  case atStart =>
    refine ⟨0, .slice none 0 0, ?_, ?_, ?_, ?_, ?_⟩
    · rfl
    · rfl
    · exact Nat.zero_le _
    · exact HT.out
    · exact Hr.out
  case round =>
    generalize wr = wl1 at *
    clear HT Hr
    obtain ⟨j, vo, rfl, rfl, hj, ht, pHr⟩ := hrel
    have HT := Lib.hid ht
    have Hr : Hid (RdSl rwE wl1 (Fr 0 [.row w.heap.size 42 4 vo ((behK most l j).length) (cat (ncs (behK most l j)))]) (.slice A l.length c) l) := Lib.hid pHr
    clear ht pHr
    obtain ⟨Ao, co, rfl⟩ := own_form (HT.out.own 0 rfl)
    have hfew := (beh_right (by omega : 0 ≤ most) l j).few
    have hsz := HT.out.base
    obtain ⟨O, hO⟩ : ∃ O, behK most l j = O := ⟨_, rfl⟩
    rw [hO] at HT Hr hfew ⊢
    have HO := Lib.hid hO
    replace Hr : Hid (RdSl rwE wl1 (Fr 0 [.row w.heap.size 42 4 (.slice Ao O.length co) O.length (cat (ncs O))]) (.slice A l.length c) l) := Hr
    replace HT : Hid (St w.heap.size w wl1 [.row w.heap.size 42 4 (.slice Ao O.length co) O.length (cat (ncs O))]) := HT
    by_cases hlt : j < l.length
    · by_cases hmo : (O.length : Int) < most
      · obtain ⟨x, hx⟩ : ∃ x, l[j]? = some x := ⟨l[j], List.getElem?_eq_getElem hlt⟩
        have hS := behK_succ (most := most) hx
        rw [hO, if_pos hmo] at hS
        have HS := Lib.hid hS
        obtain ⟨rb, ro, rfl, _, hrb, y0, y1, y2, y3, f0, f1, f2, f3⟩ := Hr.out.at_w hx
        replace f0 := wf_rng8 f0
        replace f1 := wf_rng8 f1
        replace f2 := wf_rng8 f2
        replace f3 := wf_rng8 f3
        obtain ⟨xk, xa, xb, xc⟩ := x
        dsimp only at y0 y1 y2 y3 f0 f1 f2 f3
        have i1 : (j : Int) < (l.length : Int) := by omega
        have i0 : (0 : Int) ≤ (j : Int) := by omega
        have G5 := Lib.hid (fun W => picked_any (xk.tdiv 26) 5 (tdiv_rng f0).1 (tdiv_rng f0).2 (by omega) (by omega) W)
        have Gb := Lib.hid (fun W => picked_any xb 6 f2.1 f2.2 (by omega) (by omega) W)
        have GI := Lib.hid (fun W => instrK_any xk xa xb xc f0 f1 f2 f3 W)
        have hM : moreK ⟨xk, xa, xb, xc⟩ = if pickN (xk.tdiv 26) 5 = 0 then [⟨5, pickN xb 6, 0, 2⟩, instrK ⟨xk, xa, xb, xc⟩] else [instrK ⟨xk, xa, xb, xc⟩] := rfl
        unfold stepK at HS
        generalize moreK ⟨xk, xa, xb, xc⟩ = M at *
        generalize instrK ⟨xk, xa, xb, xc⟩ = X at *
        generalize pickN (xk.tdiv 26) 5 = p5 at *
        generalize pickN xb 6 = pb at *
        have HM := Lib.hid hM
        have HX := Lib.hid hx
        clear hO hx hS hM
        replace Hr : Hid (RdSl rwE wl1 (Fr 0 [.row w.heap.size 42 4 (.slice Ao O.length co) O.length (cat (ncs O))]) (.slice (some ⟨rb, ro, none⟩) l.length c) l) := Hr
        go_wp2_with fail
        refine wp_region_plan [.still [0, 2, 3, 4, 5], .loud 1 [2, 3, 4, 5], .loud 6 [], .loud 7 [], .loud 8 [], .still [9]] (by kernel_rfl) (by kernel_rfl) ?_
        refine plan_still ?_
        simp only [pick, List.getElem?_toArray, List.getElem?_cons_succ, List.getElem?_cons_zero]
        repeat still_step
        refine wpStill_nil ?_
        refine plan_loud ?_
        simp only [pick, List.getElem?_toArray, List.getElem?_cons_succ, List.getElem?_cons_zero]
        obtain ⟨T', K'⟩ := HT.out.nilRow w.heap.size 42 4
        replace HT := Lib.hid T'
        replace Hr := Lib.hid (Hr.out.move (by decide) K')
        clear T' K'
        obtain ⟨T', K'⟩ := HT.out.drew'
        replace HT := Lib.hid T'
        replace Hr := Lib.hid (Hr.out.move (by decide) K')
        clear T' K'
        have HO2 := Lib.hid (HT.out.rdRow (E := insE) (n := 0) 1 rfl rfl rfl (ncs_held _) (by show O.length * 32 ≤ _; omega) (Nat.zero_le _) (by decide))
        refine wpList_append_stx rfl (.const (.slice none 0 0)) (.tmp 20) _ rfl (e := 42) (size := 4) (bytes := 32) Tryd.underlying43 infoIns rfl (by omega) HT.out 0 rfl rfl Ao O.length co (cat (ncs O)) rfl (ncs_len _) (rdN_cells HO2.out) (fun h => rd_none HO2.out h) (ncs_one _) (by unfold maxLen; omega) (by omega) HT.out.base ?next
        case next =>
          intro A8 c9 W10 T' K' hs3
          try rw [Nat.zero_add] at T' K'
          try rw [Nat.zero_add]
          replace T' : St w.heap.size w W10 [.row w.heap.size 42 4 (.slice A8 O.length c9) O.length (cat (ncs O)), .row w.heap.size 42 4 (.slice Ao O.length co) O.length (cat (ncs O))] := T'
          replace K' : Keeps wl1.drew [.row w.heap.size 42 4 (.slice none 0 0) 0 (cat []), .row w.heap.size 42 4 (.slice Ao O.length co) O.length (cat (ncs O))] W10 [.row w.heap.size 42 4 (.slice A8 O.length c9) O.length (cat (ncs O)), .row w.heap.size 42 4 (.slice Ao O.length co) O.length (cat (ncs O))] := K'
          replace HT := Lib.hid T'
          replace Hr := Lib.hid (Hr.out.move (by decide) K')
          clear T' K'
          clear HO2
          clear y0 y1 y2 y3 hrb
          obtain ⟨rb9, ro9, e9, _, hrb, y0, y1, y2, y3, -⟩ := Hr.out.at_w (show l[j]? = some ⟨xk, xa, xb, xc⟩ from HX.out)
          injection e9 with e9
          injection e9 with e1 e2
          subst e1 e2
          dsimp only at y0 y1 y2 y3
          refine ⟨?_, ?_⟩
          · simp only [Again, pick, List.getElem?_toArray, List.getElem?_cons_succ, List.getElem?_cons_zero]
            refine ⟨?_, ?_, ?_, ?_, trivial⟩
            all_goals (still_step; exact wpStill_nil rfl)
          refine plan_loud ?_
          simp only [pick, List.getElem?_toArray, List.getElem?_cons_succ, List.getElem?_cons_zero]
          go_wp2_with fail
          refine (GI.out _).mono ?_
          rintro en W11 ⟨rfl, hb⟩
          obtain ⟨T', K'⟩ := HT.out.call hb
          replace HT := Lib.hid T'
          replace Hr := Lib.hid (Hr.out.move (by decide) K')
          clear T' K'
          clear hb
          clear y0 y1 y2 y3 hrb
          go_wp2_with fail
          refine ⟨trivial, ?_⟩
          refine plan_loud ?_
          simp only [pick, List.getElem?_toArray, List.getElem?_cons_succ, List.getElem?_cons_zero]
          go_wp2_with fail
          go_wp2_with fail
          refine ⟨trivial, ?_⟩
          refine plan_loud ?_
          simp only [pick, List.getElem?_toArray, List.getElem?_cons_succ, List.getElem?_cons_zero]
          refine wpList_append_css rfl (.tmp 21) (.tmp 27) _ rfl (e := 42) (size := 4) (bytes := 32) Tryd.underlying43 infoIns rfl (by omega) HT.out 0 rfl rfl (nc X) 42 rfl rfl (nc_one _) (by unfold maxLen; omega) (by omega) HT.out.base ?next
          case next =>
            intro A12 c13 W14 T' K' hs3
            try rw [show ncs O ++ [nc X] = ncs (O ++ [X]) by simp [ncs]] at T' K'
            replace T' : St w.heap.size w W14 [.row w.heap.size 42 4 (.slice A12 (O.length + 1) c13) (O.length + 1) (cat (ncs (O ++ [X]))), .row w.heap.size 42 4 (.slice Ao O.length co) O.length (cat (ncs O))] := T'
            replace K' : Keeps W11 [.row w.heap.size 42 4 (.slice A8 O.length c9) O.length (cat (ncs O)), .row w.heap.size 42 4 (.slice Ao O.length co) O.length (cat (ncs O))] W14 [.row w.heap.size 42 4 (.slice A12 (O.length + 1) c13) (O.length + 1) (cat (ncs (O ++ [X]))), .row w.heap.size 42 4 (.slice Ao O.length co) O.length (cat (ncs O))] := K'
            replace HT := Lib.hid T'
            replace Hr := Lib.hid (Hr.out.move (by decide) K')
            clear T' K'
            refine ⟨trivial, ?_⟩
            refine plan_still ?_
            simp only [pick, List.getElem?_toArray, List.getElem?_cons_succ, List.getElem?_cons_zero]
            repeat still_step
            refine wpStill_nil ?_
            refine plan_end (NoPanic.normal ?_)
            obtain ⟨rb9, ro9, e9, _, hrb, y0, y1, y2, y3, -⟩ := Hr.out.at_w (show l[j]? = some ⟨xk, xa, xb, xc⟩ from HX.out)
            injection e9 with e9
            injection e9 with e1 e2
            subst e1 e2
            dsimp only at y0 y1 y2 y3
            go_wp2_with fail
            refine (G5.out _).mono ?_
            rintro en W' ⟨rfl, rfl⟩
            by_cases hz5 : p5 = 0
            · have e5 : (p5 == 0) = true := by simpa using hz5
              obtain ⟨T', K'⟩ := HT.out.drop 0
              simp only [List.eraseIdx_cons_zero] at T' K'
              replace HT := Lib.hid T'
              replace Hr := Lib.hid (Hr.out.move (by decide) K')
              clear T' K'
              go_wp2_with fail
              refine wp_region_plan [.still [0, 2, 3, 4, 5, 6, 9, 10, 11, 12], .loud 1 [2, 3, 4, 5, 6, 9, 10, 11, 12], .loud 7 [9, 10, 11, 12], .still [8], .loud 13 [8], .loud 14 [], .loud 15 [], .still [16]] (by kernel_rfl) (by kernel_rfl) ?_
              refine plan_still ?_
              simp only [pick, List.getElem?_toArray, List.getElem?_cons_succ, List.getElem?_cons_zero]
              repeat still_step
              refine wpStill_nil ?_
              refine plan_loud ?_
              simp only [pick, List.getElem?_toArray, List.getElem?_cons_succ, List.getElem?_cons_zero]
              obtain ⟨T', K'⟩ := HT.out.nilRow w.heap.size 42 4
              replace HT := Lib.hid T'
              replace Hr := Lib.hid (Hr.out.move (by decide) K')
              clear T' K'
              obtain ⟨T', K'⟩ := HT.out.drew'
              replace HT := Lib.hid T'
              replace Hr := Lib.hid (Hr.out.move (by decide) K')
              clear T' K'
              have HO2 := Lib.hid (HT.out.rdRow (E := insE) (n := 0) 1 rfl rfl rfl (ncs_held _) (by show O.length * 32 ≤ _; omega) (Nat.zero_le _) (by decide))
              refine wpList_append_stx rfl (.const (.slice none 0 0)) (.tmp 37) _ rfl (e := 42) (size := 4) (bytes := 32) Tryd.underlying43 infoIns rfl (by omega) HT.out 0 rfl rfl Ao O.length co (cat (ncs O)) rfl (ncs_len _) (rdN_cells HO2.out) (fun h => rd_none HO2.out h) (ncs_one _) (by unfold maxLen; omega) (by omega) HT.out.base ?next
              case next =>
                intro A15 c16 W17 T' K' hs3
                try rw [Nat.zero_add] at T' K'
                try rw [Nat.zero_add]
                replace T' : St w.heap.size w W17 [.row w.heap.size 42 4 (.slice A15 O.length c16) O.length (cat (ncs O)), .row w.heap.size 42 4 (.slice Ao O.length co) O.length (cat (ncs O))] := T'
                replace K' : Keeps W14.drew [.row w.heap.size 42 4 (.slice none 0 0) 0 (cat []), .row w.heap.size 42 4 (.slice Ao O.length co) O.length (cat (ncs O))] W17 [.row w.heap.size 42 4 (.slice A15 O.length c16) O.length (cat (ncs O)), .row w.heap.size 42 4 (.slice Ao O.length co) O.length (cat (ncs O))] := K'
                replace HT := Lib.hid T'
                replace Hr := Lib.hid (Hr.out.move (by decide) K')
                clear T' K'
                clear HO2
                clear y0 y1 y2 y3 hrb
                obtain ⟨rb9, ro9, e9, _, hrb, y0, y1, y2, y3, -⟩ := Hr.out.at_w (show l[j]? = some ⟨xk, xa, xb, xc⟩ from HX.out)
                injection e9 with e9
                injection e9 with e1 e2
                subst e1 e2
                dsimp only at y0 y1 y2 y3
                refine ⟨?_, ?_⟩
                · simp only [Again, pick, List.getElem?_toArray, List.getElem?_cons_succ, List.getElem?_cons_zero]
                  refine ⟨?_, ?_, ?_, ?_, ?_, ?_, ?_, ?_, ?_, trivial⟩
                  all_goals (still_step; exact wpStill_nil rfl)
                refine plan_loud ?_
                simp only [pick, List.getElem?_toArray, List.getElem?_cons_succ, List.getElem?_cons_zero]
                go_wp2_with fail
                refine (Gb.out _).mono ?_
                rintro en W' ⟨rfl, rfl⟩
                go_wp2_with fail
                refine ⟨?_, ?_⟩
                · simp only [Again, pick, List.getElem?_toArray, List.getElem?_cons_succ, List.getElem?_cons_zero]
                  refine ⟨?_, ?_, ?_, ?_, trivial⟩
                  all_goals (still_step; exact wpStill_nil rfl)
                refine plan_still ?_
                simp only [pick, List.getElem?_toArray, List.getElem?_cons_succ, List.getElem?_cons_zero]
                repeat still_step
                refine wpStill_nil ?_
                refine plan_loud ?_
                simp only [pick, List.getElem?_toArray, List.getElem?_cons_succ, List.getElem?_cons_zero]
                go_wp2_with fail
                refine (GI.out _).mono ?_
                rintro en W18 ⟨rfl, hb⟩
                obtain ⟨T', K'⟩ := HT.out.call hb
                replace HT := Lib.hid T'
                replace Hr := Lib.hid (Hr.out.move (by decide) K')
                clear T' K'
                clear hb
                clear y0 y1 y2 y3 hrb
                go_wp2_with fail
                refine ⟨?_, ?_⟩
                · simp only [Again, pick, List.getElem?_toArray, List.getElem?_cons_succ, List.getElem?_cons_zero]
                  refine ⟨?_, trivial⟩
                  all_goals (still_step; exact wpStill_nil rfl)
                refine plan_loud ?_
                simp only [pick, List.getElem?_toArray, List.getElem?_cons_succ, List.getElem?_cons_zero]
                go_wp2_with fail
                go_wp2_with fail
                obtain ⟨T', K'⟩ := HT.out.new' #[.int .i64 5, .int .i64 pb, .int .i64 0, .int .i64 2, .int .i64 X.op, .int .i64 X.a, .int .i64 X.b, .int .i64 X.n] 42 W18.heap.size (by first | (simp; done) | rfl)
                replace HT := Lib.hid T'
                replace Hr := Lib.hid (Hr.out.move (by decide) K')
                clear T' K'
                generalize (W18.alloc (.cells #[.int .i64 5, .int .i64 pb, .int .i64 0, .int .i64 2, .int .i64 X.op, .int .i64 X.a, .int .i64 X.b, .int .i64 X.n] 42)) = W19 at *
                obtain ⟨r_t, q_t, -⟩ := HT.out.rules
                have z_t : W18.heap.size < W19.heap.size := (HT.out.in_ 0 rfl rfl).2
                refine ⟨trivial, ?_⟩
                refine plan_loud ?_
                simp only [pick, List.getElem?_toArray, List.getElem?_cons_succ, List.getElem?_cons_zero]
                have HO2 := Lib.hid (rd_lit (E := insE) (S := fun _ => True) (css := ncs [⟨5, pb, 0, 2⟩, X]) (xs := [⟨5, pb, 0, 2⟩, X]) (HT.out.heap 0 rfl) trivial (ncs_held _) rfl (by show 2 * 32 ≤ 140737488355328; decide) (by show 2 ≤ maxLen; decide) 2 rfl)
                refine wpList_append_stx rfl (.tmp 38) (.tmp 51) _ rfl (e := 42) (size := 4) (bytes := 32) Tryd.underlying43 infoIns rfl (by omega) HT.out 1 rfl rfl (some ⟨W18.heap.size, 0, none⟩) 2 2 (cat (ncs ([⟨5, pb, 0, 2⟩, X]))) rfl (ncs_len _) (rdN_cells HO2.out) (fun h => by cases h) (ncs_one _) (by unfold maxLen; omega) (by omega) HT.out.base ?next
                case next =>
                  intro A20 c21 W22 T' K' hs3
                  try rw [ncs_append] at T' K'
                  clear r_t q_t z_t
                  replace T' : St w.heap.size w W22 [.blk W18.heap.size #[.int .i64 5, .int .i64 pb, .int .i64 0, .int .i64 2, .int .i64 X.op, .int .i64 X.a, .int .i64 X.b, .int .i64 X.n] 42, .row w.heap.size 42 4 (.slice A20 (O.length + 2) c21) (O.length + 2) (cat (ncs (O ++ [⟨5, pb, 0, 2⟩, X]))), .row w.heap.size 42 4 (.slice Ao O.length co) O.length (cat (ncs O))] := T'
                  replace K' : Keeps W19 [.blk W18.heap.size #[.int .i64 5, .int .i64 pb, .int .i64 0, .int .i64 2, .int .i64 X.op, .int .i64 X.a, .int .i64 X.b, .int .i64 X.n] 42, .row w.heap.size 42 4 (.slice A15 O.length c16) O.length (cat (ncs O)), .row w.heap.size 42 4 (.slice Ao O.length co) O.length (cat (ncs O))] W22 [.blk W18.heap.size #[.int .i64 5, .int .i64 pb, .int .i64 0, .int .i64 2, .int .i64 X.op, .int .i64 X.a, .int .i64 X.b, .int .i64 X.n] 42, .row w.heap.size 42 4 (.slice A20 (O.length + 2) c21) (O.length + 2) (cat (ncs (O ++ [⟨5, pb, 0, 2⟩, X]))), .row w.heap.size 42 4 (.slice Ao O.length co) O.length (cat (ncs O))] := K'
                  replace HT := Lib.hid T'
                  replace Hr := Lib.hid (Hr.out.move (by decide) K')
                  clear T' K'
                  clear HO2
                  refine ⟨trivial, ?_⟩
                  refine plan_still ?_
                  simp only [pick, List.getElem?_toArray, List.getElem?_cons_succ, List.getElem?_cons_zero]
                  repeat still_step
                  refine wpStill_nil ?_
                  refine plan_end (NoPanic.normal ?_)
                  obtain ⟨rb9, ro9, e9, _, hrb, y0, y1, y2, y3, -⟩ := Hr.out.at_w (show l[j]? = some ⟨xk, xa, xb, xc⟩ from HX.out)
                  injection e9 with e9
                  injection e9 with e1 e2
                  subst e1 e2
                  dsimp only at y0 y1 y2 y3
                  clear y0 y1 y2 y3 hrb
                  go_wp2_with fail
                  have hRd := (HT.out.rdRow (E := insE) (n := 0) 1 rfl rfl (by simp) (ncs_held (O ++ [⟨5, pb, 0, 2⟩, X])) (by simp; show (O.length + 2) * 32 ≤ _; omega) (Nat.zero_le _) (by decide))
                  have GR := rightK_any _ _ _ (O ++ [⟨5, pb, 0, 2⟩, X]) W22 (by simp; omega) (Hu.out.below HT.out.below) (by rw [show (O ++ [⟨5, pb, 0, 2⟩, X]).length = O.length + 2 by simp]; exact hRd)
                  rw [show (O ++ [⟨5, pb, 0, 2⟩, X]).length = O.length + 2 by simp] at GR
                  have HGR := Lib.hid GR
                  clear GR hRd
                  have hS := HS.out
                  rw [HM.out, if_pos hz5] at hS
                  have HS2 := Lib.hid hS
                  clear hS HS HM
                  generalize hrr : rightK (O ++ [⟨5, pb, 0, 2⟩, X]) = rr at HGR HS2
                  clear hrr
                  refine HGR.out.mono ?_
                  rintro en W9 ⟨rfl, hb⟩
                  clear HGR
                  obtain ⟨T', K'⟩ := HT.out.call hb
                  replace HT := Lib.hid T'
                  replace Hr := Lib.hid (Hr.out.move (by decide) K')
                  clear T' K'
                  clear hb
                  cases rr
                  · have hS3 := HS2.out
                    rw [if_neg (by decide)] at hS3
                    have HS3 := Lib.hid hS3
                    clear hS3 HS2
                    go_wp2_with fail
                    obtain ⟨T', K'⟩ := HT.out.drop 1
                    simp only [List.eraseIdx_cons_succ, List.eraseIdx_cons_zero] at T' K'
                    replace HT := Lib.hid T'
                    replace Hr := Lib.hid (Hr.out.move (by decide) K')
                    clear T' K'
                    obtain ⟨T', K'⟩ := HT.out.drop 0
                    simp only [List.eraseIdx_cons_zero] at T' K'
                    replace HT := Lib.hid T'
                    replace Hr := Lib.hid (Hr.out.move (by decide) K')
                    clear T' K'
                    rw [← HS3.out] at HT Hr
                    replace Hr : Hid (RdSl rwE W9 (Fr 0 [.row w.heap.size 42 4 (.slice Ao (behK most l (j + 1)).length co) ((behK most l (j + 1)).length) (cat (ncs (behK most l (j + 1))))]) (.slice (some ⟨rb, ro, none⟩) l.length c) l) := Hr
                    replace HT : Hid (St w.heap.size w W9 [.row w.heap.size 42 4 (.slice Ao (behK most l (j + 1)).length co) ((behK most l (j + 1)).length) (cat (ncs (behK most l (j + 1))))]) := HT
                    go_roundw
                    case rel =>
                      refine ⟨j + 1, .slice Ao (behK most l (j + 1)).length co, ?_, ?_, ?_, ?_, ?_⟩
                      · go_num
                      · rw [HS3.out]
                      · omega
                      · with_reducible exact HT.out
                      · with_reducible exact Hr.out
                    case measure => simp [intOf]; omega
                  · have hS3 := HS2.out
                    rw [if_pos rfl] at hS3
                    have HS3 := Lib.hid hS3
                    clear hS3 HS2
                    go_wp2_with fail
                    obtain ⟨T', K'⟩ := HT.out.drop 2
                    simp only [List.eraseIdx_cons_succ, List.eraseIdx_cons_zero] at T' K'
                    replace HT := Lib.hid T'
                    replace Hr := Lib.hid (Hr.out.move (by decide) K')
                    clear T' K'
                    obtain ⟨T', K'⟩ := HT.out.drop 0
                    simp only [List.eraseIdx_cons_zero] at T' K'
                    replace HT := Lib.hid T'
                    replace Hr := Lib.hid (Hr.out.move (by decide) K')
                    clear T' K'
                    have hn9 : O.length + 2 = (O ++ [⟨5, pb, 0, 2⟩, X]).length := by simp
                    rw [hn9] at HT Hr
                    rw [← HS3.out] at HT Hr
                    replace Hr : Hid (RdSl rwE W9 (Fr 0 [.row w.heap.size 42 4 (.slice A20 (behK most l (j + 1)).length c21) ((behK most l (j + 1)).length) (cat (ncs (behK most l (j + 1))))]) (.slice (some ⟨rb, ro, none⟩) l.length c) l) := Hr
                    replace HT : Hid (St w.heap.size w W9 [.row w.heap.size 42 4 (.slice A20 (behK most l (j + 1)).length c21) ((behK most l (j + 1)).length) (cat (ncs (behK most l (j + 1))))]) := HT
                    go_roundw
                    case rel =>
                      refine ⟨j + 1, .slice A20 (behK most l (j + 1)).length c21, ?_, ?_, ?_, ?_, ?_⟩
                      · go_num
                      · rw [HS3.out]; simp
                      · omega
                      · with_reducible exact HT.out
                      · with_reducible exact Hr.out
                    case measure => simp [intOf]; omega
            · have e5 : (p5 == 0) = false := by simpa using hz5
              go_wp2_with fail
              clear y0 y1 y2 y3 hrb
              go_wp2_with fail
              have hRd := (HT.out.rdRow (E := insE) (n := 0) 0 rfl rfl (by simp) (ncs_held (O ++ [X])) (by simp; show (O.length + 1) * 32 ≤ _; omega) (Nat.zero_le _) (by decide))
              have GR := rightK_any _ _ _ (O ++ [X]) W14 (by simp; omega) (Hu.out.below HT.out.below) (by rw [show (O ++ [X]).length = O.length + 1 by simp]; exact hRd)
              rw [show (O ++ [X]).length = O.length + 1 by simp] at GR
              have HGR := Lib.hid GR
              clear GR hRd
              have hS := HS.out
              rw [HM.out, if_neg hz5] at hS
              have HS2 := Lib.hid hS
              clear hS HS HM
              generalize hrr : rightK (O ++ [X]) = rr at HGR HS2
              clear hrr
              refine HGR.out.mono ?_
              rintro en W9 ⟨rfl, hb⟩
              clear HGR
              obtain ⟨T', K'⟩ := HT.out.call hb
              replace HT := Lib.hid T'
              replace Hr := Lib.hid (Hr.out.move (by decide) K')
              clear T' K'
              clear hb
              cases rr
              · have hS3 := HS2.out
                rw [if_neg (by decide)] at hS3
                have HS3 := Lib.hid hS3
                clear hS3 HS2
                go_wp2_with fail
                obtain ⟨T', K'⟩ := HT.out.drop 0
                simp only [List.eraseIdx_cons_zero] at T' K'
                replace HT := Lib.hid T'
                replace Hr := Lib.hid (Hr.out.move (by decide) K')
                clear T' K'
                rw [← HS3.out] at HT Hr
                replace Hr : Hid (RdSl rwE W9 (Fr 0 [.row w.heap.size 42 4 (.slice Ao (behK most l (j + 1)).length co) ((behK most l (j + 1)).length) (cat (ncs (behK most l (j + 1))))]) (.slice (some ⟨rb, ro, none⟩) l.length c) l) := Hr
                replace HT : Hid (St w.heap.size w W9 [.row w.heap.size 42 4 (.slice Ao (behK most l (j + 1)).length co) ((behK most l (j + 1)).length) (cat (ncs (behK most l (j + 1))))]) := HT
                go_roundw
                case rel =>
                  refine ⟨j + 1, .slice Ao (behK most l (j + 1)).length co, ?_, ?_, ?_, ?_, ?_⟩
                  · go_num
                  · rw [HS3.out]
                  · omega
                  · with_reducible exact HT.out
                  · with_reducible exact Hr.out
                case measure => simp [intOf]; omega
              · have hS3 := HS2.out
                rw [if_pos rfl] at hS3
                have HS3 := Lib.hid hS3
                clear hS3 HS2
                go_wp2_with fail
                obtain ⟨T', K'⟩ := HT.out.drop 1
                simp only [List.eraseIdx_cons_succ, List.eraseIdx_cons_zero] at T' K'
                replace HT := Lib.hid T'
                replace Hr := Lib.hid (Hr.out.move (by decide) K')
                clear T' K'
                have hn9 : O.length + 1 = (O ++ [X]).length := by simp
                rw [hn9] at HT Hr
                rw [← HS3.out] at HT Hr
                replace Hr : Hid (RdSl rwE W9 (Fr 0 [.row w.heap.size 42 4 (.slice A12 (behK most l (j + 1)).length c13) ((behK most l (j + 1)).length) (cat (ncs (behK most l (j + 1))))]) (.slice (some ⟨rb, ro, none⟩) l.length c) l) := Hr
                replace HT : Hid (St w.heap.size w W9 [.row w.heap.size 42 4 (.slice A12 (behK most l (j + 1)).length c13) ((behK most l (j + 1)).length) (cat (ncs (behK most l (j + 1))))]) := HT
                go_roundw
                case rel =>
                  refine ⟨j + 1, .slice A12 (behK most l (j + 1)).length c13, ?_, ?_, ?_, ?_, ?_⟩
                  · go_num
                  · rw [HS3.out]; simp
                  · omega
                  · with_reducible exact HT.out
                  · with_reducible exact Hr.out
                case measure => simp [intOf]; omega
      · have i1 : (j : Int) < (l.length : Int) := by omega
        clear hO
        have hE := behK_stay (most := most) (l := l) (j := j) (by rw [HO.out]; omega)
        go_wp2_with (at_builtin; go_loud (refine wpList_append_css rfl (.tmp 56) (.tmp 58) _ rfl (e := 42) (size := 4) (bytes := 32) Tryd.underlying43 infoIns rfl (by omega) HT.out 0 rfl rfl (nc doneI) 42 rfl rfl (nc_one _) (by unfold maxLen; omega) (by omega) HT.out.base ?next))
        case next =>
          intro A5 c6 W7 T' K' hs3
          try rw [show ncs O ++ [nc doneI] = ncs (O ++ [doneI]) by simp [ncs]] at T' K'
          replace T' : St w.heap.size w W7 [.row w.heap.size 42 4 (.slice A5 (O.length + 1) c6) (O.length + 1) (cat (ncs (O ++ [doneI])))] := T'
          replace K' : Keeps wl1 [.row w.heap.size 42 4 (.slice Ao O.length co) O.length (cat (ncs O))] W7 [.row w.heap.size 42 4 (.slice A5 (O.length + 1) c6) (O.length + 1) (cat (ncs (O ++ [doneI])))] := K'
          replace HT := Lib.hid T'
          replace Hr := Lib.hid (Hr.out.move (by decide) K')
          clear T' K'
          go_wp2_with fail
          go_ret
          have hB : behaviorK l most = O ++ [doneI] := by unfold behaviorK; rw [hE, HO.out]
          rw [hB]
          exact ⟨_, rfl, ⟨ncs (O ++ [doneI]), ncs_held _, by have := HT.out.own 0 rfl; rw [show (O ++ [doneI]).length = O.length + 1 by simp]; exact this, by simp; show (O.length + 1) * 32 ≤ _; omega⟩, HT.out.below⟩
    · clear hO
      have i1 : ¬ (j : Int) < (l.length : Int) := by omega
      have hE := behK_all (most := most) (l := l) (j := j) (by omega)
      go_wp2_with (at_builtin; go_loud (refine wpList_append_css rfl (.tmp 56) (.tmp 58) _ rfl (e := 42) (size := 4) (bytes := 32) Tryd.underlying43 infoIns rfl (by omega) HT.out 0 rfl rfl (nc doneI) 42 rfl rfl (nc_one _) (by unfold maxLen; omega) (by omega) HT.out.base ?next))
      case next =>
        intro A2 c3 W4 T' K' hs3
        try rw [show ncs O ++ [nc doneI] = ncs (O ++ [doneI]) by simp [ncs]] at T' K'
        replace T' : St w.heap.size w W4 [.row w.heap.size 42 4 (.slice A2 (O.length + 1) c3) (O.length + 1) (cat (ncs (O ++ [doneI])))] := T'
        replace K' : Keeps wl1 [.row w.heap.size 42 4 (.slice Ao O.length co) O.length (cat (ncs O))] W4 [.row w.heap.size 42 4 (.slice A2 (O.length + 1) c3) (O.length + 1) (cat (ncs (O ++ [doneI])))] := K'
        replace HT := Lib.hid T'
        replace Hr := Lib.hid (Hr.out.move (by decide) K')
        clear T' K'
        go_wp2_with fail
        go_ret
        have hB : behaviorK l most = O ++ [doneI] := by unfold behaviorK; rw [hE, HO.out]
        rw [hB]
        exact ⟨_, rfl, ⟨ncs (O ++ [doneI]), ncs_held _, by have := HT.out.own 0 rfl; rw [show (O ++ [doneI]).length = O.length + 1 by simp]; exact this, by simp; show (O.length + 1) * 32 ≤ _; omega⟩, HT.out.below⟩
end
section
open Go.RowKit
theorem infoRw : (Tryd.prog.info? 98).map (fun i => (i.zero, i.size, i.bytes)) = some (some (.agg #[.int .i64 0, .int .i64 0, .int .i64 0, .int .i64 0]), 4, 32) := by kernel_rfl
theorem infoLn : (Tryd.prog.info? 43).map (fun i => (i.zero, i.size, i.bytes)) = some (some (.slice none 0 0), 1, 24) := by kernel_rfl
/-- Numbers of 64 bits. -/
def wfR (x : Rw) : Prop := (Lit.int .i64 x.kind).wf = true ∧ (Lit.int .i64 x.a).wf = true ∧ (Lit.int .i64 x.b).wf = true ∧ (Lit.int .i64 x.c).wf = true
def rc4 (x : Rw) : List Value := [.int .i64 x.kind, .int .i64 x.a, .int .i64 x.b, .int .i64 x.c]
def rcs (l : List Rw) : List (List Value) := l.map rc4
theorem rc4_one (x : Rw) : ∀ u ∈ rc4 x, u.oneCell' = true := fun u hu => by
  simp [rc4] at hu
  rcases hu with rfl | rfl | rfl | rfl <;> rfl
theorem rcs_held {w : World} {S : Nat → Prop} (l : List Rw) (h : ∀ x ∈ l, wfR x) : Held rwE w S (rcs l) l := ⟨by simp [rcs], fun i x cs hx hc => by
  simp [rcs, hx] at hc
  subst hc
  exact ⟨rfl, rfl, h x (List.mem_of_getElem? hx)⟩⟩
theorem rdW_wf {w : World} {S : Nat → Prop} {A : Option Addr} {n c : Nat} {xs : List Rw} (h : RdSl rwE w S (.slice A n c) xs) : ∀ x ∈ xs, wfR x := fun x hx => by
  obtain ⟨i, hi⟩ := List.getElem?_of_mem hx
  obtain ⟨_, _, _, _, _, _, _, _, _, h0, h1, h2, h3⟩ := h.at_w hi
  exact ⟨h0, h1, h2, h3⟩
theorem ownK_len (l : List Rw) (k : Nat) : ∀ n, (ownK l k n).length ≤ n
  | 0 => Nat.le_refl _
  | n + 1 => by
    have := ownK_len l k n
    simp only [ownK]
    split <;> simp <;> omega
theorem ownK_mem {l : List Rw} {k : Nat} : ∀ {n : Nat} {x : Rw}, x ∈ ownK l k n → x ∈ l
  | 0, _, h => by cases h
  | n + 1, x, h => by
    simp only [ownK] at h
    rcases List.mem_append.1 h with h | h
    · exact ownK_mem h
    · split at h
      · rename_i r hr
        simp at h
        subst h
        exact List.mem_of_getElem? hr
      · cases h
theorem ownK_stay {l : List Rw} {k m : Nat} (h : l.length ≤ k + 3 * m) : ∀ d, ownK l k (m + d) = ownK l k m
  | 0 => rfl
  | d + 1 => by
    have e : l[k + 3 * (m + d)]? = none := List.getElem?_eq_none (by omega)
    show ownK l k (m + d + 1) = _
    simp only [ownK, e]
    rw [ownK_stay h d]
    simp
theorem ownK_all {l : List Rw} {k m : Nat} (h : l.length ≤ k + 3 * m ∧ m ≤ l.length) : ownK l k l.length = ownK l k m := by
  have := ownK_stay h.1 (l.length - m)
  rwa [show m + (l.length - m) = l.length by omega] at this
theorem programK_at {l : List Rw} {most : Int} {k : Nat} (hk : k < 3) : (programK l most)[k]? = some (behaviorK (ownK l k l.length) most) := by
  simp [programK, hk]
set_option maxRecDepth 100000 in
set_option maxHeartbeats 16000000 in
theorem programK_any (S : Nat → Prop) (A : Option Addr) (c : Nat) (l : List Rw) (most : Int) (w : World) (hm : 0 ≤ most ∧ most ≤ 50) (hu : UsesAt w) (hr : RdSl rwE w S (.slice A l.length c) l) :
    Calls Tryd.prog 19 #[.slice A l.length c, .int .i64 most] w fun e w' => ∃ B d, e = .returned (.agg #[.slice B 3 d]) ∧ RdSl pgE w' (fun b => w.heap.size ≤ b) (.slice B 3 d) (programK l most) ∧ Below w.heap.size w w' := by
  obtain ⟨-, h1, h2, h3⟩ := hr.lims
  have hwf := Lib.hid (rdW_wf hr)
  have h3b : l.length * 32 ≤ 140737488355328 := h3
  have Hr := Lib.hid hr
  have Hu := Lib.hid hu
  clear hr hu h3
  have T0 : St w.heap.size w (((w.alloc (.cells #[.slice none 0 0] 26)).alloc (.cells #[.slice none 0 0] 26))) [.blk (w.heap.size + 1) #[.slice none 0 0] 26, .blk w.heap.size #[.slice none 0 0] 26] := ((((St.start w (Nat.le_refl _)).new' #[.slice none 0 0] 26 (w.heap.size) (by simp)).1).new' #[.slice none 0 0] 26 (w.heap.size + 1) (by simp)).1
  have HT := Lib.hid T0
  have hz : w.heap.size + 1 + 1 ≤ ((w.alloc (.cells #[.slice none 0 0] 26)).alloc (.cells #[.slice none 0 0] 26)).heap.size := by simp
  clear T0
  replace Hr : Hid (RdSl rwE (((w.alloc (.cells #[.slice none 0 0] 26)).alloc (.cells #[.slice none 0 0] 26))) (Fr 0 [.blk (w.heap.size + 1) #[.slice none 0 0] 26, .blk w.heap.size #[.slice none 0 0] 26]) (.slice A l.length c) l) := Lib.hid (Hr.out.pool (by decide) HT.out)
  go_enter Tryd.func19, Tryd.ntmps19
  go_upto_region 2 with fail
  generalize ((w.alloc (.cells #[.slice none 0 0] 26)).alloc (.cells #[.slice none 0 0] 26)) = W1 at *
  obtain ⟨r_p, q_p, r_out, q_out, -⟩ := HT.out.rules
  have z_p : w.heap.size + 1 < W1.heap.size := (HT.out.in_ 0 rfl rfl).2
  have z_out : w.heap.size < W1.heap.size := (HT.out.in_ 1 rfl rfl).2
  obtain ⟨T', K'⟩ := HT.out.nilRow w.heap.size 43 1
  replace HT := Lib.hid T'
  replace Hr := Lib.hid (Hr.out.move (by decide) K')
  clear T' K'
  have HK : Hid (Held pgE W1 (Fr w.heap.size [.row w.heap.size 43 1 (.slice none 0 0) 0 (cat []), .blk (w.heap.size + 1) #[.slice none 0 0] 26, .blk w.heap.size #[.slice none 0 0] 26]) [] ((programK l most).take 0)) := Lib.hid Held.nil
  clear r_p q_p r_out q_out z_p z_out
  obtain ⟨r_p, q_p, r_out, q_out, -⟩ := HT.out.rules
  have z_p : w.heap.size + 1 < W1.heap.size := (HT.out.in_ 1 rfl rfl).2
  have z_out : w.heap.size < W1.heap.size := (HT.out.in_ 2 rfl rfl).2
  go_wp2_with fail
  go_loopw [10] (fun i wl2 => ∃ (k : Nat) (vo : Value) (css : List (List Value)), i = .int .i64 k ∧ k ≤ 3 ∧ St w.heap.size w wl2 [.row w.heap.size 43 1 vo k (cat css), .blk (w.heap.size + 1) #[vo] 26, .blk w.heap.size #[.slice none 0 0] 26] ∧ RdSl rwE wl2 (Fr 0 [.row w.heap.size 43 1 vo k (cat css), .blk (w.heap.size + 1) #[vo] 26, .blk w.heap.size #[.slice none 0 0] 26]) (.slice A l.length c) l ∧ Held pgE wl2 (Fr w.heap.size [.row w.heap.size 43 1 vo k (cat css), .blk (w.heap.size + 1) #[vo] 26, .blk w.heap.size #[.slice none 0 0] 26]) css ((programK l most).take k) ∧ w.heap.size + 1 + 1 ≤ wl2.heap.size) (fun i _ => 3 - (intOf i).toNat)
  case atStart =>
    refine ⟨0, .slice none 0 0, [], ?_, ?_, ?_, ?_, ?_, ?_⟩
    · rfl
    · omega
    · with_reducible exact HT.out
    · with_reducible exact Hr.out
    · with_reducible exact HK.out
    · exact hz
  case round =>
    generalize wr = wl2 at *
    clear HT Hr HK hz
    obtain ⟨k, vo, css, rfl, hk, ht, pHr, pHK, hz⟩ := hrel
    have HT := Lib.hid ht
    have Hr : Hid (RdSl rwE wl2 (Fr 0 [.row w.heap.size 43 1 vo k (cat css), .blk (w.heap.size + 1) #[vo] 26, .blk w.heap.size #[.slice none 0 0] 26]) (.slice A l.length c) l) := Lib.hid pHr
    have HK : Hid (Held pgE wl2 (Fr w.heap.size [.row w.heap.size 43 1 vo k (cat css), .blk (w.heap.size + 1) #[vo] 26, .blk w.heap.size #[.slice none 0 0] 26]) css ((programK l most).take k)) := Lib.hid pHK
    clear ht pHr pHK
    obtain ⟨Av, cv, rfl⟩ := own_form (HT.out.own 0 rfl)
    replace Hr : Hid (RdSl rwE wl2 (Fr 0 [.row w.heap.size 43 1 (.slice Av k cv) k (cat css), .blk (w.heap.size + 1) #[.slice Av k cv] 26, .blk w.heap.size #[.slice none 0 0] 26]) (.slice A l.length c) l) := Hr
    replace HK : Hid (Held pgE wl2 (Fr w.heap.size [.row w.heap.size 43 1 (.slice Av k cv) k (cat css), .blk (w.heap.size + 1) #[.slice Av k cv] 26, .blk w.heap.size #[.slice none 0 0] 26]) css ((programK l most).take k)) := HK
    replace HT : Hid (St w.heap.size w wl2 [.row w.heap.size 43 1 (.slice Av k cv) k (cat css), .blk (w.heap.size + 1) #[.slice Av k cv] 26, .blk w.heap.size #[.slice none 0 0] 26]) := HT
    obtain ⟨r_p, q_p, r_out, q_out, -⟩ := HT.out.rules
    have z_p : w.heap.size + 1 < wl2.heap.size := (HT.out.in_ 1 rfl rfl).2
    have z_out : w.heap.size < wl2.heap.size := (HT.out.in_ 2 rfl rfl).2
    by_cases hk3 : k < 3
    · have i1 : (k : Int) < 3 := by omega
      obtain ⟨T', K'⟩ := HT.out.nilRow w.heap.size 98 4
      replace HT := Lib.hid T'
      replace Hr := Lib.hid (Hr.out.move (by decide) K')
      replace HK := Lib.hid (HK.out.move K')
      clear T' K'
      clear r_p q_p r_out q_out z_p z_out
      obtain ⟨r_p, q_p, r_out, q_out, -⟩ := HT.out.rules
      have z_p : w.heap.size + 1 < wl2.heap.size := (HT.out.in_ 2 rfl rfl).2
      have z_out : w.heap.size < wl2.heap.size := (HT.out.in_ 3 rfl rfl).2
      go_wp2_with fail
      go_loopw [8, 7] (fun i vs wl4 => ∃ (m : Nat) (vw : Value), i = .int .i64 (k + 3 * m : Nat) ∧ vw = vs ∧ m ≤ l.length ∧ (m = 0 ∨ k + 3 * (m - 1) < l.length) ∧ St w.heap.size w wl4 [.row w.heap.size 98 4 vw ((ownK l k m).length) (cat (rcs (ownK l k m))), .row w.heap.size 43 1 (.slice Av k cv) k (cat css), .blk (w.heap.size + 1) #[.slice Av k cv] 26, .blk w.heap.size #[.slice none 0 0] 26] ∧ RdSl rwE wl4 (Fr 0 [.row w.heap.size 98 4 vw ((ownK l k m).length) (cat (rcs (ownK l k m))), .row w.heap.size 43 1 (.slice Av k cv) k (cat css), .blk (w.heap.size + 1) #[.slice Av k cv] 26, .blk w.heap.size #[.slice none 0 0] 26]) (.slice A l.length c) l ∧ Held pgE wl4 (Fr w.heap.size [.row w.heap.size 98 4 vw ((ownK l k m).length) (cat (rcs (ownK l k m))), .row w.heap.size 43 1 (.slice Av k cv) k (cat css), .blk (w.heap.size + 1) #[.slice Av k cv] 26, .blk w.heap.size #[.slice none 0 0] 26]) css ((programK l most).take k) ∧ w.heap.size + 1 + 1 ≤ wl4.heap.size) (fun i _ _ => l.length - (intOf i).toNat)
      case atStart =>
        refine ⟨0, .slice none 0 0, ?_, ?_, ?_, ?_, ?_, ?_, ?_, ?_⟩
        · rfl
        · rfl
        · omega
        · omega
        · exact HT.out
        · exact Hr.out
        · exact HK.out
        · exact hz
      case round =>
        generalize wr = wl4 at *
        clear HT Hr HK hz
        obtain ⟨m, vw, rfl, rfl, hm3, hp, ht, pHr, pHK, hz⟩ := hrel
        have HT := Lib.hid ht
        have Hr : Hid (RdSl rwE wl4 (Fr 0 [.row w.heap.size 98 4 vw ((ownK l k m).length) (cat (rcs (ownK l k m))), .row w.heap.size 43 1 (.slice Av k cv) k (cat css), .blk (w.heap.size + 1) #[.slice Av k cv] 26, .blk w.heap.size #[.slice none 0 0] 26]) (.slice A l.length c) l) := Lib.hid pHr
        have HK : Hid (Held pgE wl4 (Fr w.heap.size [.row w.heap.size 98 4 vw ((ownK l k m).length) (cat (rcs (ownK l k m))), .row w.heap.size 43 1 (.slice Av k cv) k (cat css), .blk (w.heap.size + 1) #[.slice Av k cv] 26, .blk w.heap.size #[.slice none 0 0] 26]) css ((programK l most).take k)) := Lib.hid pHK
        clear ht pHr pHK
        obtain ⟨Ao, co, rfl⟩ := own_form (HT.out.own 0 rfl)
        have hol := ownK_len l k m
        replace Hr : Hid (RdSl rwE wl4 (Fr 0 [.row w.heap.size 98 4 (.slice Ao (ownK l k m).length co) ((ownK l k m).length) (cat (rcs (ownK l k m))), .row w.heap.size 43 1 (.slice Av k cv) k (cat css), .blk (w.heap.size + 1) #[.slice Av k cv] 26, .blk w.heap.size #[.slice none 0 0] 26]) (.slice A l.length c) l) := Hr
        replace HK : Hid (Held pgE wl4 (Fr w.heap.size [.row w.heap.size 98 4 (.slice Ao (ownK l k m).length co) ((ownK l k m).length) (cat (rcs (ownK l k m))), .row w.heap.size 43 1 (.slice Av k cv) k (cat css), .blk (w.heap.size + 1) #[.slice Av k cv] 26, .blk w.heap.size #[.slice none 0 0] 26]) css ((programK l most).take k)) := HK
        replace HT : Hid (St w.heap.size w wl4 [.row w.heap.size 98 4 (.slice Ao (ownK l k m).length co) ((ownK l k m).length) (cat (rcs (ownK l k m))), .row w.heap.size 43 1 (.slice Av k cv) k (cat css), .blk (w.heap.size + 1) #[.slice Av k cv] 26, .blk w.heap.size #[.slice none 0 0] 26]) := HT
        obtain ⟨r_p, q_p, r_out, q_out, -⟩ := HT.out.rules
        have z_p : w.heap.size + 1 < wl4.heap.size := (HT.out.in_ 2 rfl rfl).2
        have z_out : w.heap.size < wl4.heap.size := (HT.out.in_ 3 rfl rfl).2
        by_cases hlt : k + 3 * m < l.length
        · obtain ⟨x, hx⟩ : ∃ x, l[k + 3 * m]? = some x := ⟨l[k + 3 * m], List.getElem?_eq_getElem hlt⟩
          obtain ⟨rb, ro, rfl, _, hrb, y0, y1, y2, y3, -⟩ := Hr.out.at_w hx
          have hO : ownK l k (m + 1) = ownK l k m ++ [x] := by simp only [ownK, hx]
          have i2 : ((k + 3 * m : Nat) : Int) < (l.length : Int) := by omega
          have i3 : (0 : Int) ≤ ((k + 3 * m : Nat) : Int) := by omega
          have HO := Lib.hid hO
          clear hx hO
          replace Hr : Hid (RdSl rwE wl4 (Fr 0 [.row w.heap.size 98 4 (.slice Ao (ownK l k m).length co) ((ownK l k m).length) (cat (rcs (ownK l k m))), .row w.heap.size 43 1 (.slice Av k cv) k (cat css), .blk (w.heap.size + 1) #[.slice Av k cv] 26, .blk w.heap.size #[.slice none 0 0] 26]) (.slice (some ⟨rb, ro, none⟩) l.length c) l) := Hr
          go_wp2_with (at_builtin; go_loud (refine wpList_append_css rfl (.tmp 20) (.tmp 25) _ rfl (e := 98) (size := 4) (bytes := 32) Tryd.underlying22 infoRw rfl (by omega) HT.out 0 rfl rfl (rc4 x) 98 rfl rfl (rc4_one x) (by unfold maxLen; omega) (by omega) HT.out.base ?next))
          case next =>
            intro A5 c6 W7 T' K' hs3
            try rw [show rcs (ownK l k m) ++ [rc4 x] = rcs (ownK l k (m + 1)) by rw [HO.out]; simp [rcs]] at T' K'
            clear r_p q_p r_out q_out z_p z_out
            replace T' : St w.heap.size w W7 [.row w.heap.size 98 4 (.slice A5 ((ownK l k m).length + 1) c6) ((ownK l k m).length + 1) (cat (rcs (ownK l k (m + 1)))), .row w.heap.size 43 1 (.slice Av k cv) k (cat css), .blk (w.heap.size + 1) #[.slice Av k cv] 26, .blk w.heap.size #[.slice none 0 0] 26] := T'
            replace K' : Keeps wl4 [.row w.heap.size 98 4 (.slice Ao (ownK l k m).length co) ((ownK l k m).length) (cat (rcs (ownK l k m))), .row w.heap.size 43 1 (.slice Av k cv) k (cat css), .blk (w.heap.size + 1) #[.slice Av k cv] 26, .blk w.heap.size #[.slice none 0 0] 26] W7 [.row w.heap.size 98 4 (.slice A5 ((ownK l k m).length + 1) c6) ((ownK l k m).length + 1) (cat (rcs (ownK l k (m + 1)))), .row w.heap.size 43 1 (.slice Av k cv) k (cat css), .blk (w.heap.size + 1) #[.slice Av k cv] 26, .blk w.heap.size #[.slice none 0 0] 26] := K'
            replace HT := Lib.hid T'
            replace HK := Lib.hid (HK.out.move K')
            replace Hr := Lib.hid (Hr.out.move (by decide) K')
            replace hz : w.heap.size + 1 + 1 ≤ W7.heap.size := by omega
            clear T' K'
            rw [show (ownK l k m).length + 1 = (ownK l k (m + 1)).length by rw [HO.out]; simp] at HT Hr HK
            try rw [show (ownK l k m).length + 1 = (ownK l k (m + 1)).length by rw [HO.out]; simp]
            replace HK : Hid (Held pgE W7 (Fr w.heap.size [.row w.heap.size 98 4 (.slice A5 (ownK l k (m + 1)).length c6) ((ownK l k (m + 1)).length) (cat (rcs (ownK l k (m + 1)))), .row w.heap.size 43 1 (.slice Av k cv) k (cat css), .blk (w.heap.size + 1) #[.slice Av k cv] 26, .blk w.heap.size #[.slice none 0 0] 26]) css ((programK l most).take k)) := HK
            replace Hr : Hid (RdSl rwE W7 (Fr 0 [.row w.heap.size 98 4 (.slice A5 (ownK l k (m + 1)).length c6) ((ownK l k (m + 1)).length) (cat (rcs (ownK l k (m + 1)))), .row w.heap.size 43 1 (.slice Av k cv) k (cat css), .blk (w.heap.size + 1) #[.slice Av k cv] 26, .blk w.heap.size #[.slice none 0 0] 26]) (.slice (some ⟨rb, ro, none⟩) l.length c) l) := Hr
            replace HT : Hid (St w.heap.size w W7 [.row w.heap.size 98 4 (.slice A5 (ownK l k (m + 1)).length c6) ((ownK l k (m + 1)).length) (cat (rcs (ownK l k (m + 1)))), .row w.heap.size 43 1 (.slice Av k cv) k (cat css), .blk (w.heap.size + 1) #[.slice Av k cv] 26, .blk w.heap.size #[.slice none 0 0] 26]) := HT
            clear y0 y1 y2 y3 hrb
            obtain ⟨r_p, q_p, r_out, q_out, -⟩ := HT.out.rules
            have z_p : w.heap.size + 1 < W7.heap.size := (HT.out.in_ 2 rfl rfl).2
            have z_out : w.heap.size < W7.heap.size := (HT.out.in_ 3 rfl rfl).2
            go_wp2_with fail
            clear r_p q_p r_out q_out z_p z_out
            go_roundw
            case rel =>
              refine ⟨m + 1, .slice A5 (ownK l k (m + 1)).length c6, ?_, ?_, ?_, ?_, ?_, ?_, ?_, ?_⟩
              · go_num
              · rfl
              · omega
              · omega
              · with_reducible exact HT.out
              · with_reducible exact Hr.out
              · with_reducible exact HK.out
              · exact hz
            case measure => simp [intOf]; omega
        · have i2 : ¬ ((k + 3 * m : Nat) : Int) < (l.length : Int) := by omega
          have hE : ownK l k l.length = ownK l k m := ownK_all (by omega)
          have hB : (programK l most)[k]? = some (behaviorK (ownK l k m) most) := by rw [← hE]; exact programK_at hk3
          have HM : Hid (∀ x ∈ ownK l k m, x ∈ l) := Lib.hid (fun x hx => ownK_mem hx)
          generalize ownK l k m = O at *
          have HB := Lib.hid hB
          clear hE hB hp
          replace Hr : Hid (RdSl rwE wl4 (Fr 0 [.row w.heap.size 98 4 (.slice Ao O.length co) O.length (cat (rcs O)), .row w.heap.size 43 1 (.slice Av k cv) k (cat css), .blk (w.heap.size + 1) #[.slice Av k cv] 26, .blk w.heap.size #[.slice none 0 0] 26]) (.slice A l.length c) l) := Hr
          replace HK : Hid (Held pgE wl4 (Fr w.heap.size [.row w.heap.size 98 4 (.slice Ao O.length co) O.length (cat (rcs O)), .row w.heap.size 43 1 (.slice Av k cv) k (cat css), .blk (w.heap.size + 1) #[.slice Av k cv] 26, .blk w.heap.size #[.slice none 0 0] 26]) css ((programK l most).take k)) := HK
          replace HT : Hid (St w.heap.size w wl4 [.row w.heap.size 98 4 (.slice Ao O.length co) O.length (cat (rcs O)), .row w.heap.size 43 1 (.slice Av k cv) k (cat css), .blk (w.heap.size + 1) #[.slice Av k cv] 26, .blk w.heap.size #[.slice none 0 0] 26]) := HT
          clear r_p q_p r_out q_out z_p z_out
          obtain ⟨r_p, q_p, r_out, q_out, -⟩ := HT.out.rules
          have z_p : w.heap.size + 1 < wl4.heap.size := (HT.out.in_ 2 rfl rfl).2
          have z_out : w.heap.size < wl4.heap.size := (HT.out.in_ 3 rfl rfl).2
          go_wp2_with fail
          refine wp_region_plan [.still [0, 1, 2, 3], .loud 4 [0, 1], .loud 5 [0, 1], .loud 6 [], .still [7], .loud 8 []] (by kernel_rfl) (by kernel_rfl) ?_
          refine plan_still ?_
          simp only [pick, List.getElem?_toArray, List.getElem?_cons_succ, List.getElem?_cons_zero]
          repeat still_step
          refine wpStill_nil ?_
          refine plan_loud ?_
          simp only [pick, List.getElem?_toArray, List.getElem?_cons_succ, List.getElem?_cons_zero]
          go_wp2_with fail
          obtain ⟨T', K'⟩ := HT.out.drew'
          replace HT := Lib.hid T'
          replace Hr := Lib.hid (Hr.out.move (by decide) K')
          replace HK := Lib.hid (HK.out.move K')
          clear T' K'
          replace hz : w.heap.size + 1 + 1 ≤ wl4.drew.heap.size := hz
          clear r_p q_p r_out q_out z_p z_out
          obtain ⟨r_p, q_p, r_out, q_out, -⟩ := HT.out.rules
          have z_p : w.heap.size + 1 < wl4.drew.heap.size := (HT.out.in_ 2 rfl rfl).2
          have z_out : w.heap.size < wl4.drew.heap.size := (HT.out.in_ 3 rfl rfl).2
          have hWf : ∀ x ∈ O, wfR x := fun x hx => hwf.out x (HM.out x hx)
          have hRd := HT.out.rdRow (E := rwE) (n := 0) 0 rfl rfl rfl (rcs_held O hWf) (by show O.length * 32 ≤ _; omega) (Nat.zero_le _) (by decide)
          have GB := Lib.hid (behaviorK_any _ Ao co O most wl4.drew hm (Hu.out.below HT.out.below) hRd)
          clear hRd hWf
          generalize behaviorK O most = bk at *
          refine (GB.out).mono ?_
          rintro en W8 ⟨vb, rfl, hown, hb⟩
          obtain ⟨Ab, cb, rfl⟩ := hown.form
          have hrd := (OwnSl.flat (S' := fun _ => False) (fun _ _ _ _ h => h) hown).rd.keep (S' := fun b => (wl4.drew).heap.size ≤ b) (by decide) (fun b _ h => ⟨h.elim (fun h => h.elim) id, rfl⟩)
          clear hown GB
          clear r_p q_p r_out q_out z_p z_out
          have Hfresh := Lib.hid (HT.out)
          have hzo : w.heap.size ≤ wl4.drew.heap.size := by omega
          obtain ⟨T', K'⟩ := HT.out.call hb
          replace HT := Lib.hid T'
          replace Hr := Lib.hid (Hr.out.move (by decide) K')
          replace HK := Lib.hid (HK.out.move K')
          clear T' K'
          replace hz : w.heap.size + 1 + 1 ≤ W8.heap.size := Nat.le_trans hz hb.size
          clear hb
          have HF : Hid (RdSl insE W8 (Fr w.heap.size [.row w.heap.size 98 4 (.slice Ao O.length co) O.length (cat (rcs O)), .row w.heap.size 43 1 (.slice Av k cv) k (cat css), .blk (w.heap.size + 1) #[.slice Av k cv] 26, .blk w.heap.size #[.slice none 0 0] 26]) (.slice Ab bk.length cb) bk) := Lib.hid (hrd.fresh (by first | decide | (show 0 < 1; omega)) Hfresh.out hzo)
          clear hrd
          clear Hfresh hzo
          obtain ⟨r_p, q_p, r_out, q_out, -⟩ := HT.out.rules
          have z_p : w.heap.size + 1 < W8.heap.size := (HT.out.in_ 2 rfl rfl).2
          have z_out : w.heap.size < W8.heap.size := (HT.out.in_ 3 rfl rfl).2
          go_wp2_with fail
          refine ⟨?_, ?_⟩
          · simp only [Again, pick, List.getElem?_toArray, List.getElem?_cons_succ, List.getElem?_cons_zero]
            refine ⟨?_, ?_, trivial⟩
            all_goals (still_step; exact wpStill_nil rfl)
          refine plan_loud ?_
          simp only [pick, List.getElem?_toArray, List.getElem?_cons_succ, List.getElem?_cons_zero]
          go_wp2_with fail
          go_wp2_with fail
          refine ⟨?_, ?_⟩
          · simp only [Again, pick, List.getElem?_toArray, List.getElem?_cons_succ, List.getElem?_cons_zero]
            refine ⟨?_, ?_, trivial⟩
            all_goals (still_step; exact wpStill_nil rfl)
          refine plan_loud ?_
          simp only [pick, List.getElem?_toArray, List.getElem?_cons_succ, List.getElem?_cons_zero]
          refine wpList_append_css rfl (.tmp 28) (.tmp 32) _ rfl (e := 43) (size := 1) (bytes := 24) Tryd.underlying24 infoLn rfl (by omega) HT.out 1 rfl rfl [.slice Ab bk.length cb] 43 rfl rfl (by simp [Value.oneCell']) (by unfold maxLen; omega) (by omega) HT.out.base ?next
          case next =>
            intro A9 c10 W11 T' K' hs3
            clear r_p q_p r_out q_out z_p z_out
            replace T' : St w.heap.size w W11 [.row w.heap.size 98 4 (.slice Ao O.length co) O.length (cat (rcs O)), .row w.heap.size 43 1 (.slice A9 (k + 1) c10) (k + 1) (cat (css ++ [[.slice Ab bk.length cb]])), .blk (w.heap.size + 1) #[.slice Av k cv] 26, .blk w.heap.size #[.slice none 0 0] 26] := T'
            replace K' : Keeps W8 [.row w.heap.size 98 4 (.slice Ao O.length co) O.length (cat (rcs O)), .row w.heap.size 43 1 (.slice Av k cv) k (cat css), .blk (w.heap.size + 1) #[.slice Av k cv] 26, .blk w.heap.size #[.slice none 0 0] 26] W11 [.row w.heap.size 98 4 (.slice Ao O.length co) O.length (cat (rcs O)), .row w.heap.size 43 1 (.slice A9 (k + 1) c10) (k + 1) (cat (css ++ [[.slice Ab bk.length cb]])), .blk (w.heap.size + 1) #[.slice Av k cv] 26, .blk w.heap.size #[.slice none 0 0] 26] := K'
            replace HT := Lib.hid T'
            replace Hr := Lib.hid (Hr.out.move (by decide) K')
            replace HK := Lib.hid (HK.out.move K')
            replace HF := Lib.hid (HF.out.move (by decide) K')
            replace hz : w.heap.size + 1 + 1 ≤ W11.heap.size := by omega
            clear T' K'
            have hnew : Held pgE W11 (Fr w.heap.size [.row w.heap.size 98 4 (.slice Ao O.length co) O.length (cat (rcs O)), .row w.heap.size 43 1 (.slice A9 (k + 1) c10) (k + 1) (cat (css ++ [[.slice Ab bk.length cb]])), .blk (w.heap.size + 1) #[.slice Av k cv] 26, .blk w.heap.size #[.slice none 0 0] 26]) (css ++ [[.slice Ab bk.length cb]]) ((programK l most).take (k + 1)) := by
              rw [List.take_add_one, HB.out]
              exact HK.out.append (Held.single (E := pgE) (cs := [.slice Ab bk.length cb]) (x := bk) rfl ⟨_, rfl, HF.out⟩)
            replace HK := Lib.hid hnew
            clear hnew
            obtain ⟨r_p, q_p, r_out, q_out, -⟩ := HT.out.rules
            have z_p : w.heap.size + 1 < W11.heap.size := (HT.out.in_ 2 rfl rfl).2
            have z_out : w.heap.size < W11.heap.size := (HT.out.in_ 3 rfl rfl).2
            refine ⟨trivial, ?_⟩
            refine plan_still ?_
            simp only [pick, List.getElem?_toArray, List.getElem?_cons_succ, List.getElem?_cons_zero]
            repeat still_step
            refine wpStill_nil ?_
            refine plan_loud ?_
            simp only [pick, List.getElem?_toArray, List.getElem?_cons_succ, List.getElem?_cons_zero]
            go_wp2_with fail
            go_wp2_with fail
            clear r_p q_p r_out q_out z_p z_out
            obtain ⟨T', K'⟩ := HT.out.put 2 0 (.slice A9 (k + 1) c10) rfl
            simp only [List.set_cons_succ, List.set_cons_zero, List.setIfInBounds_toArray] at T' K'
            replace HT := Lib.hid T'
            replace Hr := Lib.hid (Hr.out.move (by decide) K')
            replace HF := Lib.hid (HF.out.move (by decide) K')
            replace HK := Lib.hid (HK.out.move K')
            clear T' K'
            replace hz : w.heap.size + 1 + 1 ≤ ((W11.setCell ⟨w.heap.size + 1, 0, none⟩ (.slice A9 (k + 1) c10))).heap.size := by simpa using hz
            generalize W11.setCell ⟨w.heap.size + 1, 0, none⟩ (.slice A9 (k + 1) c10) = W12 at *
            obtain ⟨r_p, q_p, r_out, q_out, -⟩ := HT.out.rules
            have z_p : w.heap.size + 1 < W12.heap.size := (HT.out.in_ 2 rfl rfl).2
            have z_out : w.heap.size < W12.heap.size := (HT.out.in_ 3 rfl rfl).2
            refine ⟨trivial, ?_⟩
            refine plan_end (NoPanic.normal ?_)
            clear HF
            obtain ⟨T', K'⟩ := HT.out.drop 0
            simp only [List.eraseIdx_cons_zero] at T' K'
            replace HT := Lib.hid T'
            replace Hr := Lib.hid (Hr.out.move (by decide) K')
            replace HK := Lib.hid (HK.out.move K')
            clear T' K'
            clear r_p q_p r_out q_out z_p z_out
            obtain ⟨r_p, q_p, r_out, q_out, -⟩ := HT.out.rules
            have z_p : w.heap.size + 1 < W12.heap.size := (HT.out.in_ 1 rfl rfl).2
            have z_out : w.heap.size < W12.heap.size := (HT.out.in_ 2 rfl rfl).2
            go_wp2_with fail
            clear r_p q_p r_out q_out z_p z_out
            go_roundw
            case rel =>
              refine ⟨k + 1, .slice A9 (k + 1) c10, css ++ [[.slice Ab bk.length cb]], ?_, ?_, ?_, ?_, ?_, ?_⟩
              · go_num
              · omega
              · with_reducible exact HT.out
              · with_reducible exact Hr.out
              · with_reducible exact HK.out
              · exact hz
            case measure => simp [intOf]; omega
    · have i1 : ¬ (k : Int) < 3 := by omega
      obtain rfl : k = 3 := by omega
      replace Hr : Hid (RdSl rwE wl2 (Fr 0 [.row w.heap.size 43 1 (.slice Av 3 cv) 3 (cat css), .blk (w.heap.size + 1) #[.slice Av 3 cv] 26, .blk w.heap.size #[.slice none 0 0] 26]) (.slice A l.length c) l) := Hr
      replace HK : Hid (Held pgE wl2 (Fr w.heap.size [.row w.heap.size 43 1 (.slice Av 3 cv) 3 (cat css), .blk (w.heap.size + 1) #[.slice Av 3 cv] 26, .blk w.heap.size #[.slice none 0 0] 26]) css ((programK l most).take 3)) := HK
      replace HT : Hid (St w.heap.size w wl2 [.row w.heap.size 43 1 (.slice Av 3 cv) 3 (cat css), .blk (w.heap.size + 1) #[.slice Av 3 cv] 26, .blk w.heap.size #[.slice none 0 0] 26]) := HT
      clear r_p q_p r_out q_out z_p z_out
      obtain ⟨r_p, q_p, r_out, q_out, -⟩ := HT.out.rules
      have z_p : w.heap.size + 1 < wl2.heap.size := (HT.out.in_ 1 rfl rfl).2
      have z_out : w.heap.size < wl2.heap.size := (HT.out.in_ 2 rfl rfl).2
      go_wp2_with fail
      clear r_p q_p r_out q_out z_p z_out
      obtain ⟨T', K'⟩ := HT.out.put 2 0 (.slice Av 3 cv) rfl
      simp only [List.set_cons_succ, List.set_cons_zero, List.setIfInBounds_toArray] at T' K'
      replace HT := Lib.hid T'
      replace Hr := Lib.hid (Hr.out.move (by decide) K')
      replace HK := Lib.hid (HK.out.move K')
      clear T' K'
      replace hz : w.heap.size + 1 + 1 ≤ ((wl2.setCell ⟨w.heap.size, 0, none⟩ (.slice Av 3 cv))).heap.size := by simpa using hz
      generalize wl2.setCell ⟨w.heap.size, 0, none⟩ (.slice Av 3 cv) = W3 at *
      obtain ⟨r_p, q_p, r_out, q_out, -⟩ := HT.out.rules
      have z_p : w.heap.size + 1 < W3.heap.size := (HT.out.in_ 1 rfl rfl).2
      have z_out : w.heap.size < W3.heap.size := (HT.out.in_ 2 rfl rfl).2
      have htk : (programK l most).take 3 = programK l most := List.take_of_length_le (by rw [programK_len]; omega)
      have hH := HK.out
      rw [htk] at hH
      have hA := HT.out.rdRow (E := pgE) (n := w.heap.size) 0 rfl rfl (programK_len l most).symm hH (by rw [programK_len]; show 3 * 24 ≤ _; omega) (Nat.le_refl _) (by show 0 < 1; omega)
      try simp only [Exit.inBlock, Exit.then]
      refine bodyPost_ret (v := .agg #[.slice Av 3 cv]) (by simp [results, Tryd.results19, go_sem, r_out]) rfl ?_
      exact ⟨Av, cv, rfl, hA, HT.out.below⟩
end
end Go.Proofs.YtabcjdalifhpdaaDoor
