/- THE STATEMENT 'CollectSame': for every input the call returns true, and each argument reads behind it as it did: proved out of the walks. No condition beside the row's own. -/
import Derived.Test.YtabcjdalifhpdaaHeapK
import Derived.Test.YtabcjdalifhpdaaCollect
import Derived.Test.YtabcjdalifhpdaaKeptP
import Derived.Test.YtabcjdalifhpdaaFormW
import Derived.Test.YtabcjdalifhpdaaEqual
import Derived.Test.YtabcjdalifhpdaaStD
import Derived.Test.YtabcjdalifhpdaaArgs
import Derived.Test.YtabcjdalifhpdaaFacts
set_option maxRecDepth 100000
namespace Go.Proofs.Ytabcjdalifhpdaa.lawCollectSame
open Go.ChangeShapes Go.WideShapes Go.ChangeAt Go.RowKit
set_option linter.unusedVariables false

set_option maxRecDepth 100000 in
set_option maxHeartbeats 4000000 in
theorem walk (w : World) (l : List Rw) (A : Option Addr) (c : Nat) (hp : RdSl rwE w (fun _ => True) (.slice A l.length c) l) (a : Int) (ha : -9223372036854775808 ≤ a ∧ a ≤ 9223372036854775807) (b : Int) (hb : -9223372036854775808 ≤ b ∧ b ≤ 9223372036854775807) :
    Calls Try.prog 4 #[.slice A l.length c, .int .i64 a, .int .i64 b] w fun e w' => e = .returned (.bool true) ∧ Below w.heap.size w w' := by
  have Gk := Lib.hid (fun W S A c (hr : RdSl rwE W S (.slice A l.length c) l) => heapK_any 40 (by omega) S A c l W hr)
  unfold HeapKD at Gk
  have Hl := Lib.hid hp
  clear hp
  have T0 : St w.heap.size w w [] := St.start w (Nat.le_refl _)
  have HT := Lib.hid T0
  have hz : w.heap.size ≤ w.heap.size := by simp
  clear T0
  replace Hl : Hid (RdSl rwE w (Fr 0 []) (.slice A l.length c) l) := Lib.hid (Hl.out.pool (by decide) HT.out)
  go_enter Try.func4, Try.ntmps4
  go_wp2_with fail
  refine (Gk.out _ _ _ _ Hl.out).mono ?_
  rintro en W1 ⟨os, A1, c1, B1, d1, rfl, hgood, hos, hall, hb⟩
  have Hfresh := Lib.hid (HT.out)
  have hzo : w.heap.size ≤ w.heap.size := by omega
  obtain ⟨T', K'⟩ := HT.out.call hb
  replace HT := Lib.hid T'
  replace Hl := Lib.hid (Hl.out.move (by decide) K')
  clear T' K'
  replace hz : w.heap.size ≤ W1.heap.size := Nat.le_trans hz hb.size
  clear hb
  have Ho : Hid (RdSl obE W1 (Fr w.heap.size []) (.slice A1 os.length c1) os) := Lib.hid (hos.fresh (by first | decide | (show 0 < 1; omega)) Hfresh.out hzo)
  clear hos
  have Ha : Hid (RdSl vE W1 (Fr w.heap.size []) (.slice B1 os.length d1) (refsTo os.length)) := Lib.hid (hall.fresh (by first | decide | (show 0 < 1; omega)) Hfresh.out hzo)
  clear hall
  clear Hfresh hzo
  clear Hl
  obtain ⟨l1, l2⟩ := hgood.lim
  have Hgood := Lib.hid hgood
  clear hgood Gk
  go_upto_region 2 with fail
  obtain ⟨T', K'⟩ := HT.out.new' #[.int .i64 40, .slice A1 os.length c1] 25 W1.heap.size (by first | (simp; done) | rfl)
  replace HT := Lib.hid T'
  replace Ho := Lib.hid (Ho.out.move (by decide) K')
  replace Ha := Lib.hid (Ha.out.move (by decide) K')
  clear T' K'
  replace hz : w.heap.size ≤ ((W1.alloc (.cells #[.int .i64 40, .slice A1 os.length c1] 25))).heap.size := Nat.le_trans hz (by simp)
  generalize (W1.alloc (.cells #[.int .i64 40, .slice A1 os.length c1] 25)) = W2 at *
  obtain ⟨r_h, q_h, -⟩ := HT.out.rules
  have z_h : W1.heap.size < W2.heap.size := (HT.out.in_ 0 rfl rfl).2
  by_cases h0 : os.length = 0
  · have e0 : ((os.length : Int) == 0) = true := by simp [h0]
    clear h0
    go_wp2_with fail
    go_ret
    exact ⟨rfl, HT.out.below⟩
  have e0 : ((os.length : Int) == 0) = false := by simpa using h0
  have hp9 := pickN_lt a os.length (by omega)
  have Pi := Lib.hid (fun W => picked_any a os.length ha.1 ha.2 (by omega) (by omega) W)
  generalize pickN a os.length = p9 at *
  obtain ⟨i, rfl⟩ := Int.eq_ofNat_of_zero_le hp9.1
  obtain ⟨i1, i2⟩ := hp9
  have hp9 := pickN_lt b os.length (by omega)
  have Pj := Lib.hid (fun W => picked_any b os.length hb.1 hb.2 (by omega) (by omega) W)
  generalize pickN b os.length = p9 at *
  obtain ⟨j, rfl⟩ := Int.eq_ofNat_of_zero_le hp9.1
  obtain ⟨j1, j2⟩ := hp9
  have HRS : ∃ rs : List V, Hid (rs = [⟨2, (i : Int)⟩, ⟨0, 0⟩, ⟨2, (j : Int)⟩, ⟨2, (i : Int)⟩]) := ⟨_, Lib.hid rfl⟩
  obtain ⟨rs, HRS⟩ := HRS
  have h4 : rs.length = 4 := by rw [HRS.out]; rfl
  have hpb : hpB ⟨40, os⟩ rs = true := good_hp Hgood.out (by rw [HRS.out]; simp [ref_val (show i < os.length by omega), ref_val (show j < os.length by omega)]; rfl)
  obtain ⟨rl, o1, o2, s, f1, f2, f3, f4, f5, f6, f7, f8, f9, f10⟩ := coll_same hpb
  rw [h4] at f4
  have e1 : collE ⟨40, os⟩ rs = 0 := if_neg (by simp [hpb])
  have e2 : collE ⟨40, o1⟩ s = 0 := if_neg (by simp [f6])
  have e3 : checkN ⟨40, os⟩ rs = 0 := by simp [checkN, hpb]
  have e4 : checkN ⟨40, o1⟩ s = 0 := by simp [checkN, f6]
  have e5 : reachR ⟨40, os⟩ rs = rl := by unfold reachR; rw [if_pos hpb, f1]
  have Gr := fun W S T A R c d (hr : RdSl obE W S (.slice A os.length c) os) (hq : RdSl vE W T (.slice R rs.length d) rs) => reachD_any 40 S T A R c d os rs W hr hq
  have Gc := fun W S T A R c d (hr : RdSl obE W S (.slice A os.length c) os) (hq : RdSl vE W T (.slice R rs.length d) rs) => collect_any 40 S T A R c d os rs W hr hq
  have Gd := fun W S T A R c d (hr : RdSl obE W S (.slice A o1.length c) o1) (hq : RdSl vE W T (.slice R s.length d) s) => collect_any 40 S T A R c d o1 s W hr hq
  have Ge := fun W S T A R c d (hr : RdSl obE W S (.slice A o1.length c) o1) (hq : RdSl vE W T (.slice R s.length d) s) => check_any 40 S T A R c d o1 s W hr hq
  have Gf := fun W S T A R c d (hr : RdSl obE W S (.slice A os.length c) os) (hq : RdSl vE W T (.slice R rs.length d) rs) => form_any 40 S T A R c d os rs W hr hq hpb (by omega)
  have Gg := fun W S T A R c d (hr : RdSl obE W S (.slice A o1.length c) o1) (hq : RdSl vE W T (.slice R s.length d) s) => form_any 40 S T A R c d o1 s W hr hq f6 (by omega)
  have Gh := fun W S T A R c d (hr : RdSl vE W S (.slice A s.length c) s) (hq : RdSl vE W T (.slice R s.length d) s) => equalV_eq S T A R c d s W hr hq
  unfold ReachD at Gr
  unfold CollD RdH at Gc Gd
  simp only [f1, f2, f3, f4, f5, f7, f8, f9, f10, h4, e1, e2, e3, e4, e5] at Gr Gc Gd Ge Gf Gg Gh
  generalize formL os rs = F at *
  replace Gr := Lib.hid Gr
  replace Gc := Lib.hid Gc
  replace Gd := Lib.hid Gd
  replace Ge := Lib.hid Ge
  replace Gf := Lib.hid Gf
  replace Gg := Lib.hid Gg
  replace Gh := Lib.hid Gh
  have b1 : ((rl.length : Int) == (rl.length : Int)) = true := by simp
  have H4 := Lib.hid h4
  clear h0 f1 f2 f3 f4 f5 f6 f7 f8 f9 f10 e1 e2 e3 e4 e5 hpb h4 ha hb Hgood
  go_upto_region 4 with fail
  refine wp_region_plan [.still [0, 1, 2, 3, 7, 8, 9, 10, 11, 15, 16, 17, 18], .loud 4 [0, 7, 8, 9, 10, 11, 15, 16, 17, 18], .still [5, 6], .loud 12 [0, 7, 8, 15, 16, 17, 18, 5, 6], .still [13, 14], .loud 19 [0, 7, 8, 15, 5, 6, 13, 14], .still [20, 21], .loud 22 [], .still [23]] (by kernel_rfl) (by kernel_rfl) ?_
  refine plan_still ?_
  simp only [pick, List.getElem?_toArray, List.getElem?_cons_succ, List.getElem?_cons_zero]
  repeat still_step
  refine wpStill_nil ?_
  refine plan_loud ?_
  simp only [pick, List.getElem?_toArray, List.getElem?_cons_succ, List.getElem?_cons_zero]
  go_wp2_with fail
  obtain ⟨q, o, hq, _, _, c0, c1'⟩ := Ha.out.at_v (refsTo_at (n := os.length) (i := i) (by omega))
  obtain ⟨rfl⟩ := hq
  obtain ⟨q', o', hq, _, _, c2, c3⟩ := Ha.out.at_v (refsTo_at (n := os.length) (i := j) (by omega))
  obtain ⟨rfl⟩ := hq
  dsimp only at c0 c1' c2 c3
  refine (Pi.out _).mono ?_
  rintro en W' ⟨rfl, rfl⟩
  go_wp2_with fail
  refine ⟨?_, ?_⟩
  · simp only [Again, pick, List.getElem?_toArray, List.getElem?_cons_succ, List.getElem?_cons_zero]
    refine ⟨?_, ?_, ?_, ?_, ?_, ?_, ?_, ?_, ?_, ?_, trivial⟩
    all_goals (still_step; exact wpStill_nil rfl)
  refine plan_still ?_
  simp only [pick, List.getElem?_toArray, List.getElem?_cons_succ, List.getElem?_cons_zero]
  repeat still_step
  refine wpStill_nil ?_
  refine plan_loud ?_
  simp only [pick, List.getElem?_toArray, List.getElem?_cons_succ, List.getElem?_cons_zero]
  go_wp2_with fail
  refine (Pj.out _).mono ?_
  rintro en W' ⟨rfl, rfl⟩
  go_wp2_with fail
  refine ⟨?_, ?_⟩
  · simp only [Again, pick, List.getElem?_toArray, List.getElem?_cons_succ, List.getElem?_cons_zero]
    refine ⟨?_, ?_, ?_, ?_, ?_, ?_, ?_, ?_, ?_, trivial⟩
    all_goals (still_step; exact wpStill_nil rfl)
  refine plan_still ?_
  simp only [pick, List.getElem?_toArray, List.getElem?_cons_succ, List.getElem?_cons_zero]
  repeat still_step
  refine wpStill_nil ?_
  refine plan_loud ?_
  simp only [pick, List.getElem?_toArray, List.getElem?_cons_succ, List.getElem?_cons_zero]
  go_wp2_with fail
  refine (Pi.out _).mono ?_
  rintro en W' ⟨rfl, rfl⟩
  go_wp2_with fail
  refine ⟨?_, ?_⟩
  · simp only [Again, pick, List.getElem?_toArray, List.getElem?_cons_succ, List.getElem?_cons_zero]
    refine ⟨?_, ?_, ?_, ?_, ?_, ?_, ?_, ?_, trivial⟩
    all_goals (still_step; exact wpStill_nil rfl)
  refine plan_still ?_
  simp only [pick, List.getElem?_toArray, List.getElem?_cons_succ, List.getElem?_cons_zero]
  repeat still_step
  refine wpStill_nil ?_
  refine plan_loud ?_
  simp only [pick, List.getElem?_toArray, List.getElem?_cons_succ, List.getElem?_cons_zero]
  go_wp2_with fail
  obtain ⟨T', K'⟩ := HT.out.new' #[.int .i64 2, .int .i64 (i : Int), .int .i64 0, .int .i64 0, .int .i64 2, .int .i64 (j : Int), .int .i64 2, .int .i64 (i : Int)] 30 W2.heap.size (by first | (simp; done) | rfl)
  replace HT := Lib.hid T'
  replace Ho := Lib.hid (Ho.out.move (by decide) K')
  replace Ha := Lib.hid (Ha.out.move (by decide) K')
  clear T' K'
  replace hz : w.heap.size ≤ ((W2.alloc (.cells #[.int .i64 2, .int .i64 (i : Int), .int .i64 0, .int .i64 0, .int .i64 2, .int .i64 (j : Int), .int .i64 2, .int .i64 (i : Int)] 30))).heap.size := Nat.le_trans hz (by simp)
  clear r_h q_h z_h
  generalize (W2.alloc (.cells #[.int .i64 2, .int .i64 (i : Int), .int .i64 0, .int .i64 0, .int .i64 2, .int .i64 (j : Int), .int .i64 2, .int .i64 (i : Int)] 30)) = W3 at *
  clear c0 c1' c2 c3
  obtain ⟨r_t, q_t, r_h, q_h, -⟩ := HT.out.rules
  have z_t : W2.heap.size < W3.heap.size := (HT.out.in_ 0 rfl rfl).2
  have z_h : W1.heap.size < W3.heap.size := (HT.out.in_ 1 rfl rfl).2
  refine ⟨trivial, ?_⟩
  refine plan_still ?_
  simp only [pick, List.getElem?_toArray, List.getElem?_cons_succ, List.getElem?_cons_zero]
  repeat still_step
  refine wpStill_nil ?_
  refine plan_end (NoPanic.normal ?_)
  clear Ha
  go_wp2_with fail
  obtain ⟨T', K'⟩ := HT.out.drew'
  replace HT := Lib.hid T'
  replace Ho := Lib.hid (Ho.out.move (by decide) K')
  clear T' K'
  replace hz : w.heap.size ≤ W3.drew.heap.size := hz
  refine (Gr.out _ _ _ _ _ _ _ Ho.out (rd_lit (E := vE) (S := fun _ => True) (css := vcs rs) (xs := rs) (HT.out.heap 0 rfl) trivial (vcs_held rs) (by rw [HRS.out]; rfl) (by rw [H4.out]; decide) (by rw [H4.out]; decide) 4 H4.out.symm)).mono ?_
  rintro en W4 ⟨A3, c3, rfl, hrr, hb⟩
  clear r_t q_t r_h q_h z_t z_h
  have Hfresh := Lib.hid (HT.out)
  have hzo : w.heap.size ≤ W3.drew.heap.size := by omega
  obtain ⟨T', K'⟩ := HT.out.call hb
  replace HT := Lib.hid T'
  replace Ho := Lib.hid (Ho.out.move (by decide) K')
  clear T' K'
  replace hz : w.heap.size ≤ W4.heap.size := Nat.le_trans hz hb.size
  clear hb
  have Hr : Hid (RdSl iE W4 (Fr w.heap.size [.blk W2.heap.size #[.int .i64 2, .int .i64 (i : Int), .int .i64 0, .int .i64 0, .int .i64 2, .int .i64 (j : Int), .int .i64 2, .int .i64 (i : Int)] 30, .blk W1.heap.size #[.int .i64 40, .slice A1 os.length c1] 25]) (.slice A3 rl.length c3) rl) := Lib.hid (hrr.fresh (by first | decide | (show 0 < 1; omega)) Hfresh.out hzo)
  clear hrr
  clear Hfresh hzo
  obtain ⟨r_t, q_t, r_h, q_h, -⟩ := HT.out.rules
  have z_t : W2.heap.size < W4.heap.size := (HT.out.in_ 0 rfl rfl).2
  have z_h : W1.heap.size < W4.heap.size := (HT.out.in_ 1 rfl rfl).2
  go_wp2_with fail
  refine (Gc.out _ _ _ _ _ _ _ Ho.out (rd_lit (E := vE) (S := fun _ => True) (css := vcs rs) (xs := rs) (HT.out.heap 0 rfl) trivial (vcs_held rs) (by rw [HRS.out]; rfl) (by rw [H4.out]; decide) (by rw [H4.out]; decide) 4 H4.out.symm)).mono ?_
  rintro en W5 ⟨u1, B2, d2, rfl, ⟨A2, c2, rfl, hra⟩, hrv, hb⟩
  clear r_t q_t r_h q_h z_t z_h
  have Hfresh := Lib.hid (HT.out)
  have hzo : w.heap.size ≤ W4.heap.size := by omega
  obtain ⟨T', K'⟩ := HT.out.call hb
  replace HT := Lib.hid T'
  replace Ho := Lib.hid (Ho.out.move (by decide) K')
  replace Hr := Lib.hid (Hr.out.move (by decide) K')
  clear T' K'
  replace hz : w.heap.size ≤ W5.heap.size := Nat.le_trans hz hb.size
  clear hb
  have Hg : Hid (RdSl obE W5 (Fr w.heap.size [.blk W2.heap.size #[.int .i64 2, .int .i64 (i : Int), .int .i64 0, .int .i64 0, .int .i64 2, .int .i64 (j : Int), .int .i64 2, .int .i64 (i : Int)] 30, .blk W1.heap.size #[.int .i64 40, .slice A1 os.length c1] 25]) (.slice A2 rl.length c2) o1) := Lib.hid (hra.fresh (by first | decide | (show 0 < 1; omega)) Hfresh.out hzo)
  clear hra
  have Hs : Hid (RdSl vE W5 (Fr w.heap.size [.blk W2.heap.size #[.int .i64 2, .int .i64 (i : Int), .int .i64 0, .int .i64 0, .int .i64 2, .int .i64 (j : Int), .int .i64 2, .int .i64 (i : Int)] 30, .blk W1.heap.size #[.int .i64 40, .slice A1 os.length c1] 25]) (.slice B2 4 d2) s) := Lib.hid (hrv.fresh (by first | decide | (show 0 < 1; omega)) Hfresh.out hzo)
  clear hrv
  clear Hfresh hzo
  obtain ⟨r_t, q_t, r_h, q_h, -⟩ := HT.out.rules
  have z_t : W2.heap.size < W5.heap.size := (HT.out.in_ 0 rfl rfl).2
  have z_h : W1.heap.size < W5.heap.size := (HT.out.in_ 1 rfl rfl).2
  go_upto_region 7 with fail
  obtain ⟨T', K'⟩ := HT.out.new' #[.int .i64 40, .slice A2 rl.length c2] 25 W5.heap.size (by first | (simp; done) | rfl)
  replace HT := Lib.hid T'
  replace Ho := Lib.hid (Ho.out.move (by decide) K')
  replace Hr := Lib.hid (Hr.out.move (by decide) K')
  replace Hg := Lib.hid (Hg.out.move (by decide) K')
  replace Hs := Lib.hid (Hs.out.move (by decide) K')
  clear T' K'
  replace hz : w.heap.size ≤ ((W5.alloc (.cells #[.int .i64 40, .slice A2 rl.length c2] 25))).heap.size := Nat.le_trans hz (by simp)
  clear r_t q_t r_h q_h z_t z_h
  generalize (W5.alloc (.cells #[.int .i64 40, .slice A2 rl.length c2] 25)) = W6 at *
  obtain ⟨r_g, q_g, r_t, q_t, r_h, q_h, -⟩ := HT.out.rules
  have z_g : W5.heap.size < W6.heap.size := (HT.out.in_ 0 rfl rfl).2
  have z_t : W2.heap.size < W6.heap.size := (HT.out.in_ 1 rfl rfl).2
  have z_h : W1.heap.size < W6.heap.size := (HT.out.in_ 2 rfl rfl).2
  go_wp2_with fail
  refine (Gd.out _ _ _ _ _ _ _ Hg.out Hs.out).mono ?_
  rintro en W7 ⟨u1, B4, d4, rfl, ⟨A4, c4, rfl, hra⟩, hrv, hb⟩
  clear r_g q_g r_t q_t r_h q_h z_g z_t z_h
  have Hfresh := Lib.hid (HT.out)
  have hzo : w.heap.size ≤ W6.heap.size := by omega
  obtain ⟨T', K'⟩ := HT.out.call hb
  replace HT := Lib.hid T'
  replace Ho := Lib.hid (Ho.out.move (by decide) K')
  replace Hr := Lib.hid (Hr.out.move (by decide) K')
  replace Hg := Lib.hid (Hg.out.move (by decide) K')
  replace Hs := Lib.hid (Hs.out.move (by decide) K')
  clear T' K'
  replace hz : w.heap.size ≤ W7.heap.size := Nat.le_trans hz hb.size
  clear hb
  have Hn : Hid (RdSl obE W7 (Fr w.heap.size [.blk W5.heap.size #[.int .i64 40, .slice A2 rl.length c2] 25, .blk W2.heap.size #[.int .i64 2, .int .i64 (i : Int), .int .i64 0, .int .i64 0, .int .i64 2, .int .i64 (j : Int), .int .i64 2, .int .i64 (i : Int)] 30, .blk W1.heap.size #[.int .i64 40, .slice A1 os.length c1] 25]) (.slice A4 rl.length c4) o2) := Lib.hid (hra.fresh (by first | decide | (show 0 < 1; omega)) Hfresh.out hzo)
  clear hra
  have Ht : Hid (RdSl vE W7 (Fr w.heap.size [.blk W5.heap.size #[.int .i64 40, .slice A2 rl.length c2] 25, .blk W2.heap.size #[.int .i64 2, .int .i64 (i : Int), .int .i64 0, .int .i64 0, .int .i64 2, .int .i64 (j : Int), .int .i64 2, .int .i64 (i : Int)] 30, .blk W1.heap.size #[.int .i64 40, .slice A1 os.length c1] 25]) (.slice B4 4 d4) s) := Lib.hid (hrv.fresh (by first | decide | (show 0 < 1; omega)) Hfresh.out hzo)
  clear hrv
  clear Hfresh hzo
  obtain ⟨r_g, q_g, r_t, q_t, r_h, q_h, -⟩ := HT.out.rules
  have z_g : W5.heap.size < W7.heap.size := (HT.out.in_ 0 rfl rfl).2
  have z_t : W2.heap.size < W7.heap.size := (HT.out.in_ 1 rfl rfl).2
  have z_h : W1.heap.size < W7.heap.size := (HT.out.in_ 2 rfl rfl).2
  go_upto_region 8 with fail
  obtain ⟨T', K'⟩ := HT.out.new' #[.int .i64 40, .slice A4 rl.length c4] 25 W7.heap.size (by first | (simp; done) | rfl)
  replace HT := Lib.hid T'
  replace Ho := Lib.hid (Ho.out.move (by decide) K')
  replace Hr := Lib.hid (Hr.out.move (by decide) K')
  replace Hg := Lib.hid (Hg.out.move (by decide) K')
  replace Hs := Lib.hid (Hs.out.move (by decide) K')
  replace Hn := Lib.hid (Hn.out.move (by decide) K')
  replace Ht := Lib.hid (Ht.out.move (by decide) K')
  clear T' K'
  replace hz : w.heap.size ≤ ((W7.alloc (.cells #[.int .i64 40, .slice A4 rl.length c4] 25))).heap.size := Nat.le_trans hz (by simp)
  clear r_g q_g r_t q_t r_h q_h z_g z_t z_h
  generalize (W7.alloc (.cells #[.int .i64 40, .slice A4 rl.length c4] 25)) = W8 at *
  obtain ⟨r_n, q_n, r_g, q_g, r_t, q_t, r_h, q_h, -⟩ := HT.out.rules
  have z_n : W7.heap.size < W8.heap.size := (HT.out.in_ 0 rfl rfl).2
  have z_g : W5.heap.size < W8.heap.size := (HT.out.in_ 1 rfl rfl).2
  have z_t : W2.heap.size < W8.heap.size := (HT.out.in_ 2 rfl rfl).2
  have z_h : W1.heap.size < W8.heap.size := (HT.out.in_ 3 rfl rfl).2
  refine wp_region_plan [.still [0, 1, 2, 3, 4, 5, 6, 7, 8, 9, 10, 11, 12, 13, 14, 15, 16, 17, 18, 19, 20], .loud 21 [], .still [22, 23, 24, 25, 26, 28, 29], .loud 27 [28, 29], .loud 30 [], .loud 31 [], .still [32, 33, 34, 35], .loud 36 [], .still [37, 38, 39, 40, 41, 42, 43, 44, 45, 46, 47, 48, 49, 50, 51, 52, 53]] (by kernel_rfl) (by kernel_rfl) ?_
  refine plan_still ?_
  simp only [pick, List.getElem?_toArray, List.getElem?_cons_succ, List.getElem?_cons_zero]
  repeat still_step
  refine wpStill_nil ?_
  refine plan_loud ?_
  simp only [pick, List.getElem?_toArray, List.getElem?_cons_succ, List.getElem?_cons_zero]
  go_wp2_with fail
  obtain ⟨T', K'⟩ := HT.out.drew'
  replace HT := Lib.hid T'
  replace Ho := Lib.hid (Ho.out.move (by decide) K')
  replace Hr := Lib.hid (Hr.out.move (by decide) K')
  replace Hg := Lib.hid (Hg.out.move (by decide) K')
  replace Hs := Lib.hid (Hs.out.move (by decide) K')
  replace Hn := Lib.hid (Hn.out.move (by decide) K')
  replace Ht := Lib.hid (Ht.out.move (by decide) K')
  clear T' K'
  replace hz : w.heap.size ≤ W8.drew.heap.size := hz
  refine (Ge.out _ _ _ _ _ _ _ Hg.out Hs.out).mono ?_
  rintro en W9 ⟨rfl, hb⟩
  clear r_n q_n r_g q_g r_t q_t r_h q_h z_n z_g z_t z_h
  obtain ⟨T', K'⟩ := HT.out.call hb
  replace HT := Lib.hid T'
  replace Ho := Lib.hid (Ho.out.move (by decide) K')
  replace Hr := Lib.hid (Hr.out.move (by decide) K')
  replace Hg := Lib.hid (Hg.out.move (by decide) K')
  replace Hs := Lib.hid (Hs.out.move (by decide) K')
  replace Hn := Lib.hid (Hn.out.move (by decide) K')
  replace Ht := Lib.hid (Ht.out.move (by decide) K')
  clear T' K'
  replace hz : w.heap.size ≤ W9.heap.size := Nat.le_trans hz hb.size
  clear hb
  obtain ⟨r_n, q_n, r_g, q_g, r_t, q_t, r_h, q_h, -⟩ := HT.out.rules
  have z_n : W7.heap.size < W9.heap.size := (HT.out.in_ 0 rfl rfl).2
  have z_g : W5.heap.size < W9.heap.size := (HT.out.in_ 1 rfl rfl).2
  have z_t : W2.heap.size < W9.heap.size := (HT.out.in_ 2 rfl rfl).2
  have z_h : W1.heap.size < W9.heap.size := (HT.out.in_ 3 rfl rfl).2
  go_wp2_with fail
  refine ⟨trivial, ?_⟩
  refine plan_still ?_
  simp only [pick, List.getElem?_toArray, List.getElem?_cons_succ, List.getElem?_cons_zero]
  repeat still_step
  refine wpStill_nil ?_
  refine plan_loud ?_
  simp only [pick, List.getElem?_toArray, List.getElem?_cons_succ, List.getElem?_cons_zero]
  go_wp2_with fail
  refine (Gf.out _ _ _ _ _ _ _ Ho.out (rd_lit (E := vE) (S := fun _ => True) (css := vcs rs) (xs := rs) (HT.out.heap 2 rfl) trivial (vcs_held rs) (by rw [HRS.out]; rfl) (by rw [H4.out]; decide) (by rw [H4.out]; decide) 4 H4.out.symm)).mono ?_
  rintro en W10 ⟨A5, c5, rfl, hrf, hb⟩
  clear r_n q_n r_g q_g r_t q_t r_h q_h z_n z_g z_t z_h
  have Hfresh := Lib.hid (HT.out)
  have hzo : w.heap.size ≤ W9.heap.size := by omega
  obtain ⟨T', K'⟩ := HT.out.call hb
  replace HT := Lib.hid T'
  replace Ho := Lib.hid (Ho.out.move (by decide) K')
  replace Hr := Lib.hid (Hr.out.move (by decide) K')
  replace Hg := Lib.hid (Hg.out.move (by decide) K')
  replace Hs := Lib.hid (Hs.out.move (by decide) K')
  replace Hn := Lib.hid (Hn.out.move (by decide) K')
  replace Ht := Lib.hid (Ht.out.move (by decide) K')
  clear T' K'
  replace hz : w.heap.size ≤ W10.heap.size := Nat.le_trans hz hb.size
  clear hb
  have H5 : Hid (RdSl iE W10 (Fr w.heap.size [.blk W7.heap.size #[.int .i64 40, .slice A4 rl.length c4] 25, .blk W5.heap.size #[.int .i64 40, .slice A2 rl.length c2] 25, .blk W2.heap.size #[.int .i64 2, .int .i64 (i : Int), .int .i64 0, .int .i64 0, .int .i64 2, .int .i64 (j : Int), .int .i64 2, .int .i64 (i : Int)] 30, .blk W1.heap.size #[.int .i64 40, .slice A1 os.length c1] 25]) (.slice A5 F.length c5) F) := Lib.hid (hrf.fresh (by first | decide | (show 0 < 1; omega)) Hfresh.out hzo)
  clear hrf
  clear Hfresh hzo
  obtain ⟨r_n, q_n, r_g, q_g, r_t, q_t, r_h, q_h, -⟩ := HT.out.rules
  have z_n : W7.heap.size < W10.heap.size := (HT.out.in_ 0 rfl rfl).2
  have z_g : W5.heap.size < W10.heap.size := (HT.out.in_ 1 rfl rfl).2
  have z_t : W2.heap.size < W10.heap.size := (HT.out.in_ 2 rfl rfl).2
  have z_h : W1.heap.size < W10.heap.size := (HT.out.in_ 3 rfl rfl).2
  go_wp2_with fail
  refine ⟨?_, ?_⟩
  · simp only [Again, pick, List.getElem?_toArray, List.getElem?_cons_succ, List.getElem?_cons_zero]
    refine ⟨?_, ?_, trivial⟩
    all_goals (still_step; exact wpStill_nil rfl)
  refine plan_loud ?_
  simp only [pick, List.getElem?_toArray, List.getElem?_cons_succ, List.getElem?_cons_zero]
  go_wp2_with fail
  refine (Gg.out _ _ _ _ _ _ _ Hg.out Hs.out).mono ?_
  rintro en W11 ⟨A6, c6, rfl, hrf, hb⟩
  clear r_n q_n r_g q_g r_t q_t r_h q_h z_n z_g z_t z_h
  have Hfresh := Lib.hid (HT.out)
  have hzo : w.heap.size ≤ W10.heap.size := by omega
  obtain ⟨T', K'⟩ := HT.out.call hb
  replace HT := Lib.hid T'
  replace Ho := Lib.hid (Ho.out.move (by decide) K')
  replace Hr := Lib.hid (Hr.out.move (by decide) K')
  replace Hg := Lib.hid (Hg.out.move (by decide) K')
  replace Hs := Lib.hid (Hs.out.move (by decide) K')
  replace Hn := Lib.hid (Hn.out.move (by decide) K')
  replace Ht := Lib.hid (Ht.out.move (by decide) K')
  replace H5 := Lib.hid (H5.out.move (by decide) K')
  clear T' K'
  replace hz : w.heap.size ≤ W11.heap.size := Nat.le_trans hz hb.size
  clear hb
  have H6 : Hid (RdSl iE W11 (Fr w.heap.size [.blk W7.heap.size #[.int .i64 40, .slice A4 rl.length c4] 25, .blk W5.heap.size #[.int .i64 40, .slice A2 rl.length c2] 25, .blk W2.heap.size #[.int .i64 2, .int .i64 (i : Int), .int .i64 0, .int .i64 0, .int .i64 2, .int .i64 (j : Int), .int .i64 2, .int .i64 (i : Int)] 30, .blk W1.heap.size #[.int .i64 40, .slice A1 os.length c1] 25]) (.slice A6 F.length c6) F) := Lib.hid (hrf.fresh (by first | decide | (show 0 < 1; omega)) Hfresh.out hzo)
  clear hrf
  clear Hfresh hzo
  obtain ⟨r_n, q_n, r_g, q_g, r_t, q_t, r_h, q_h, -⟩ := HT.out.rules
  have z_n : W7.heap.size < W11.heap.size := (HT.out.in_ 0 rfl rfl).2
  have z_g : W5.heap.size < W11.heap.size := (HT.out.in_ 1 rfl rfl).2
  have z_t : W2.heap.size < W11.heap.size := (HT.out.in_ 2 rfl rfl).2
  have z_h : W1.heap.size < W11.heap.size := (HT.out.in_ 3 rfl rfl).2
  go_wp2_with fail
  refine ⟨trivial, ?_⟩
  refine plan_loud ?_
  simp only [pick, List.getElem?_toArray, List.getElem?_cons_succ, List.getElem?_cons_zero]
  go_wp2_with fail
  refine (equalI_eq _ _ _ _ _ _ F _ H5.out H6.out).mono ?_
  rintro en W' ⟨rfl, qn, rfl⟩
  clear r_n q_n r_g q_g r_t q_t r_h q_h z_n z_g z_t z_h
  obtain ⟨T', K'⟩ := HT.out.drewN9 qn
  replace HT := Lib.hid T'
  replace Ho := Lib.hid (Ho.out.move (by decide) K')
  replace Hr := Lib.hid (Hr.out.move (by decide) K')
  replace Hg := Lib.hid (Hg.out.move (by decide) K')
  replace Hs := Lib.hid (Hs.out.move (by decide) K')
  replace Hn := Lib.hid (Hn.out.move (by decide) K')
  replace Ht := Lib.hid (Ht.out.move (by decide) K')
  replace H5 := Lib.hid (H5.out.move (by decide) K')
  replace H6 := Lib.hid (H6.out.move (by decide) K')
  clear T' K'
  replace hz : w.heap.size ≤ ((W11.drewN qn)).heap.size := hz
  generalize (W11.drewN qn) = W12 at *
  obtain ⟨r_n, q_n, r_g, q_g, r_t, q_t, r_h, q_h, -⟩ := HT.out.rules
  have z_n : W7.heap.size < W12.heap.size := (HT.out.in_ 0 rfl rfl).2
  have z_g : W5.heap.size < W12.heap.size := (HT.out.in_ 1 rfl rfl).2
  have z_t : W2.heap.size < W12.heap.size := (HT.out.in_ 2 rfl rfl).2
  have z_h : W1.heap.size < W12.heap.size := (HT.out.in_ 3 rfl rfl).2
  go_wp2_with fail
  refine ⟨trivial, ?_⟩
  refine plan_still ?_
  simp only [pick, List.getElem?_toArray, List.getElem?_cons_succ, List.getElem?_cons_zero]
  repeat still_step
  refine wpStill_nil ?_
  refine plan_loud ?_
  simp only [pick, List.getElem?_toArray, List.getElem?_cons_succ, List.getElem?_cons_zero]
  go_wp2_with fail
  refine (Gh.out _ _ _ _ _ _ _ Hs.out Ht.out).mono ?_
  rintro en W' ⟨rfl, qn, rfl⟩
  clear r_n q_n r_g q_g r_t q_t r_h q_h z_n z_g z_t z_h
  obtain ⟨T', K'⟩ := HT.out.drewN9 qn
  replace HT := Lib.hid T'
  replace Ho := Lib.hid (Ho.out.move (by decide) K')
  replace Hr := Lib.hid (Hr.out.move (by decide) K')
  replace Hg := Lib.hid (Hg.out.move (by decide) K')
  replace Hs := Lib.hid (Hs.out.move (by decide) K')
  replace Hn := Lib.hid (Hn.out.move (by decide) K')
  replace Ht := Lib.hid (Ht.out.move (by decide) K')
  replace H5 := Lib.hid (H5.out.move (by decide) K')
  replace H6 := Lib.hid (H6.out.move (by decide) K')
  clear T' K'
  replace hz : w.heap.size ≤ ((W12.drewN qn)).heap.size := hz
  generalize (W12.drewN qn) = W13 at *
  obtain ⟨r_n, q_n, r_g, q_g, r_t, q_t, r_h, q_h, -⟩ := HT.out.rules
  have z_n : W7.heap.size < W13.heap.size := (HT.out.in_ 0 rfl rfl).2
  have z_g : W5.heap.size < W13.heap.size := (HT.out.in_ 1 rfl rfl).2
  have z_t : W2.heap.size < W13.heap.size := (HT.out.in_ 2 rfl rfl).2
  have z_h : W1.heap.size < W13.heap.size := (HT.out.in_ 3 rfl rfl).2
  go_wp2_with fail
  refine ⟨trivial, ?_⟩
  refine plan_still ?_
  simp only [pick, List.getElem?_toArray, List.getElem?_cons_succ, List.getElem?_cons_zero]
  repeat still_step
  refine wpStill_nil ?_
  refine plan_end (NoPanic.normal ?_)
  go_wp2_with fail
  go_ret
  exact ⟨rfl, HT.out.below⟩

theorem lifted (os : Os) (started : os.Started) (H : Type) (enc : TypeId × Value → H) :
    ReturnsInHanded {} Try.checked os 4 .any (Rows.collectSameSpec.pre6 enc Try.prog Try.f4 Rows.collectSameRow.domain false) (Rows.collectSameSpec.post enc Try.prog Try.f4 false true false false) := by
  refine returnsInHanded_of_change_sized (C := Try.checked) own started (by kernel_rfl) Try.func4
    (ChangeSpec.witness6 (enc := enc) (C := Try.checked) false ⟨#[], #[.slice none 0 0, .int .i64 0, .int .i64 0], []⟩ 8 (by kernel_rfl) (by kernel_rfl) (by kernel_rfl) (by kernel_rfl)) ?_
  intro W base args ds gs before hval0 hW _ hsz0 _
  have hval : ∀ (j : Nat) t v, Try.f4.params[j]? = some t → args[j]? = some v → Value.okWide Try.prog W .any base t v := hval0
  have hsz : (DataW.weightsEach Try.prog (Try.f4.params.toList ++ Rows.collectSameSpec.plain.varTypes Try.prog) (ds ++ gs)).all (· ≤ reachBytes) = true := hsz0
  have hW' := hW
  obtain ⟨p, q, hA0, hV, rfl, hfz, hnd⟩ := hW
  have hA : DataW.TrodAll enc Try.prog W 0 (fun _ => true) true Try.f4.params.toList args.toList ds p := hA0
  rw [Try.params4] at hA hval hsz
  obtain ⟨v0, vs0, d0, ds0, p0, q0, hargs, rfl, rfl, h0, r0⟩ := trodAll_cons hA
  obtain ⟨v1, vs1, d1, ds1, p1, q1, rfl, rfl, rfl, h1, r1⟩ := trodAll_cons r0
  obtain ⟨v2, vs2, d2, ds2, p2, q2, rfl, rfl, rfl, h2, r2⟩ := trodAll_cons r1
  obtain ⟨rfl, rfl, rfl⟩ := trodAll_nil r2
  obtain rfl : args = #[v0, v1, v2] := by cases args; simp_all
  obtain ⟨rfl, rfl⟩ := trodVars_none hV
  obtain ⟨x0, A0, c0, rfl, y0⟩ := arg_rs h0 (hval 0 22 v0 rfl rfl) (sized_at hsz (j := 0) rfl rfl)
  obtain ⟨a1, rfl, -, -, w1⟩ := open_int Try.underlying3 (hval 1 3 v1 rfl rfl) h1
  obtain ⟨a2, rfl, -, -, w2⟩ := open_int Try.underlying3 (hval 2 3 v2 rfl rfl) h2
  clear hA0 hval0 hsz0
  refine (walk W x0 A0 c0 y0 a1 (wf_i64_range w1) a2 (wf_i64_range w2)).mono fun e W' ⟨he, hb⟩ => ?_
  subst he
  exact ⟨_, rfl, law_post (tb := 4) laidOut Try.underlying4 (by kernel_rfl) (by rw [Try.params4]; exact all_types (by kernel_rfl)) rfl hW' rfl hb⟩

theorem closed : joinedFacts Try.prog 4 Try.f4 Rows.collectSameSpec Rows.collectSameRow = true :=
  facts_of (by kernel_rfl) laidOut fact_rowed (by kernel_rfl) (by kernel_rfl) (by kernel_rfl) fact_stops (by kernel_rfl) fact_knobs (by kernel_rfl) (by kernel_rfl) (by kernel_rfl) (by kernel_rfl) (by kernel_rfl) (by kernel_rfl) (by kernel_rfl) (by kernel_rfl) (by kernel_rfl) (by kernel_rfl) (by kernel_rfl) (by kernel_rfl) (by kernel_rfl) (by kernel_rfl) (by kernel_rfl) fact_heard fact_may (by rw [fact_lifts]; rfl) fact_make ⟨rfl, rfl⟩ (by kernel_rfl) (by kernel_rfl) (by kernel_rfl)
theorem over : Rows.collectSameRow.holds Try.pinned (OpenSpec.ofChange Rows.collectSameSpec) :=
  OpenClaim.holds_of_wide 4 Try.f4 rfl rfl rfl rfl rfl rfl rfl ⟨rfl, rfl, rfl, rfl, rfl⟩ rfl rfl rfl rfl rfl (by kernel_rfl) Try.func4 closed
    (of_decide_eq_true (by kernel_rfl)) (by unfold Func.isWrapper; first | (rw [if_pos (by decide +kernel)]; kernel_rfl) | (rw [if_neg (by decide +kernel)]; exact ⟨rfl, rfl⟩))
    (fun os started H enc _ => lifted os started H enc)
/-- THE STATEMENT. -/
theorem proved : Rows.CollectSameSaid := over
#print axioms proved
end Go.Proofs.Ytabcjdalifhpdaa.lawCollectSame
