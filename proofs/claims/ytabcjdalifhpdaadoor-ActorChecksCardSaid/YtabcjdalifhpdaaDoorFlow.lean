/- The walk of verify.flow. Condition: instructions are in their bounds, and lead where instructions are. -/
import Derived.Test.YtabcjdalifhpdaaDoorFlowM
import Derived.Deep.LoopGhost
namespace Go.Proofs.YtabcjdalifhpdaaDoor
open Go.RowKit

set_option maxRecDepth 100000 in
set_option maxHeartbeats 16000000 in
theorem flow_any (S : Nat → Prop) (A : Option Addr) (c : Nat) (l : List Ins) (hl : FlCode l) (w : World) (hr : RdSl insE w S (.slice A l.length c) l) :
    Calls Tryd.prog 61 #[.slice A l.length c] w (FlowD w l) := by
  obtain ⟨-, hc1, hc2, hc3⟩ := hr.lims
  have h1 := hl.one
  have h60 := hl.few
  obtain ⟨i0, hi0, hz0, hz1, hz2⟩ := info_parts (show (Tryd.prog.info? 119).map (fun i => (i.zero, i.size, i.bytes)) = some (some (.agg #[.int .i64 0, .int .i64 0, .int .i64 0, .int .i64 0, .int .i64 0, .int .i64 0, .int .i64 0, .int .i64 0]), 8, 64) by kernel_rfl)
  obtain ⟨j0, hj0, hy0, hy1, hy2⟩ := info_parts (show (Tryd.prog.info? 4).map (fun i => (i.zero, i.size, i.bytes)) = some (some (.bool false), 1, 1) by kernel_rfl)
  have Hl := Lib.hid hl
  have Hr := Lib.hid hr
  clear hl hr hc3
  have T0 : St w.heap.size w w [] := St.start w (Nat.le_refl _)
  have HT := Lib.hid T0
  have hz : w.heap.size ≤ w.heap.size := by simp
  clear T0
  replace Hr : Hid (RdSl insE w (Fr 0 []) (.slice A l.length c) l) := Lib.hid (Hr.out.pool (by decide) HT.out)
  go_enter Tryd.func61, Tryd.ntmps61
  go_upto_region 1 with fail
  refine wp_region_tree (.still [0, 1, 3, 4] (.alt (.loud 2 [3, 4] (.still [6] (.loud 5 [0, 1, 6] (.still [7] .done)))) (.loud 5 [0, 1] (.loud 2 [3, 4] (.still [6, 7] .done))))) (fun a9 b9 w9 => ∃ (ga gd : Nat), St w.heap.size w w9 [.row w.heap.size 4 1 (.slice (some ⟨gd, 0, none⟩) l.length l.length) l.length (List.replicate (l.length * 1) (.bool false)), .row w.heap.size 119 8 (.slice (some ⟨ga, 0, none⟩) l.length l.length) l.length (List.replicate (l.length * 8) (.int .i64 0))] ∧ RdSl insE w9 (Fr 0 [.row w.heap.size 4 1 (.slice (some ⟨gd, 0, none⟩) l.length l.length) l.length (List.replicate (l.length * 1) (.bool false)), .row w.heap.size 119 8 (.slice (some ⟨ga, 0, none⟩) l.length l.length) l.length (List.replicate (l.length * 8) (.int .i64 0))]) (.slice A l.length c) l ∧ w.heap.size ≤ w9.heap.size ∧ ∃ (g14 : Value) (g15 : Value) (g17 : Value) (g18 : Value), b9 = ((((((((a9.put (some 14) g14).put (some 15) g15).put (some 16) (.slice (some ⟨ga, 0, none⟩) l.length l.length)).put (some 17) g17).put (some 18) g18).put (some 19) (.slice (some ⟨gd, 0, none⟩) l.length l.length)).put (some 4) (.slice (some ⟨ga, 0, none⟩) l.length l.length)).put (some 5) (.slice (some ⟨gd, 0, none⟩) l.length l.length))) (by kernel_rfl) (by kernel_rfl) ?_ ?_
  focus
    obtain ⟨T', K'⟩ := HT.out.drew'
    replace HT := Lib.hid T'
    replace Hr := Lib.hid (Hr.out.move (by decide) K')
    clear T' K'
    replace hz : w.heap.size ≤ w.drew.heap.size := hz
    generalize w.drew = W1 at *
    refine tr_still ?_
    simp only [pick, List.getElem?_toArray, List.getElem?_cons_succ, List.getElem?_cons_zero]
    repeat still_step
    refine wpStill_nil ?_
    refine tr_alt ?_ ?_
    · refine tr_loud ?_
      simp only [pick, List.getElem?_toArray, List.getElem?_cons_succ, List.getElem?_cons_zero]
      refine wpList_make_full _ rfl (.tmp 15) (.tmp 15) 113 rfl W1.heap.size 119 i0 _ 8 Tryd.underlying113 hi0 hz0 hz1 _ _ _ _ l.length rfl rfl rfl rfl (by rw [hz2]; omega) (by unfold maxLen; omega) (Nat.le_refl _) ?next
      case next =>
        intro W2 hown hgr
        replace hown := made_rep alike_known hown
        obtain ⟨T', K'⟩ := HT.out.ownRow ((Below.refl _ _).grown hgr (Nat.le_refl _) (fun k hk => by cases hk)) hown (m := w.heap.size) (by omega)
        replace HT := Lib.hid T'
        replace Hr := Lib.hid (Hr.out.move (by decide) K')
        clear T' K'
        replace hz : w.heap.size ≤ W2.heap.size := Nat.le_trans hz hgr.size
        clear hown hgr
        go_wp2_with fail
        refine ⟨?_, ?_⟩
        · simp only [Again, pick, List.getElem?_toArray, List.getElem?_cons_succ, List.getElem?_cons_zero]
          refine ⟨?_, ?_, trivial⟩
          all_goals (still_step; exact wpStill_nil rfl)
        refine tr_still ?_
        simp only [pick, List.getElem?_toArray, List.getElem?_cons_succ, List.getElem?_cons_zero]
        repeat still_step
        refine wpStill_nil ?_
        refine tr_loud ?_
        simp only [pick, List.getElem?_toArray, List.getElem?_cons_succ, List.getElem?_cons_zero]
        refine wpList_make_full _ rfl (.tmp 18) (.tmp 18) 114 rfl W2.heap.size 4 j0 _ 1 Tryd.underlying114 hj0 hy0 hy1 _ _ _ _ l.length rfl rfl rfl rfl (by rw [hy2]; omega) (by unfold maxLen; omega) (Nat.le_refl _) ?next
        case next =>
          intro W3 hown hgr
          replace hown := made_rep alike_bool hown
          obtain ⟨T', K'⟩ := HT.out.ownRow ((Below.refl _ _).grown hgr (Nat.le_refl _) (fun k hk => by cases hk)) hown (m := w.heap.size) (by omega)
          replace HT := Lib.hid T'
          replace Hr := Lib.hid (Hr.out.move (by decide) K')
          clear T' K'
          replace hz : w.heap.size ≤ W3.heap.size := Nat.le_trans hz hgr.size
          clear hown hgr
          go_wp2_with fail
          refine ⟨?_, ?_⟩
          · simp only [Again, pick, List.getElem?_toArray, List.getElem?_cons_succ, List.getElem?_cons_zero]
            refine ⟨?_, ?_, ?_, trivial⟩
            all_goals (still_step; exact wpStill_nil rfl)
          refine tr_still ?_
          simp only [pick, List.getElem?_toArray, List.getElem?_cons_succ, List.getElem?_cons_zero]
          repeat still_step
          refine wpStill_nil ?_
          have hP9 := HT.out.perm (R' := [.row w.heap.size 4 1 (.slice (some ⟨W2.heap.size, 0, none⟩) l.length l.length) l.length (List.replicate (l.length * 1) (.bool false)), .row w.heap.size 119 8 (.slice (some ⟨W1.heap.size, 0, none⟩) l.length l.length) l.length (List.replicate (l.length * 8) (.int .i64 0))]) (.refl _)
          refine tr_done ?_
          refine ⟨W1.heap.size, W2.heap.size, hP9.1, Hr.out.move (by decide) hP9.2, hz, ?_⟩
          repeat (apply Exists.intro)
          try simp only [Act.put, List.setIfInBounds_toArray, List.set_cons_succ, List.set_cons_zero]
          rfl
    · refine tr_loud ?_
      simp only [pick, List.getElem?_toArray, List.getElem?_cons_succ, List.getElem?_cons_zero]
      refine wpList_make_full _ rfl (.tmp 18) (.tmp 18) 114 rfl W1.heap.size 4 j0 _ 1 Tryd.underlying114 hj0 hy0 hy1 _ _ _ _ l.length rfl rfl rfl rfl (by rw [hy2]; omega) (by unfold maxLen; omega) (Nat.le_refl _) ?next
      case next =>
        intro W4 hown hgr
        replace hown := made_rep alike_bool hown
        obtain ⟨T', K'⟩ := HT.out.ownRow ((Below.refl _ _).grown hgr (Nat.le_refl _) (fun k hk => by cases hk)) hown (m := w.heap.size) (by omega)
        replace HT := Lib.hid T'
        replace Hr := Lib.hid (Hr.out.move (by decide) K')
        clear T' K'
        replace hz : w.heap.size ≤ W4.heap.size := Nat.le_trans hz hgr.size
        clear hown hgr
        go_wp2_with fail
        refine ⟨?_, ?_⟩
        · simp only [Again, pick, List.getElem?_toArray, List.getElem?_cons_succ, List.getElem?_cons_zero]
          refine ⟨?_, ?_, trivial⟩
          all_goals (still_step; exact wpStill_nil rfl)
        refine tr_loud ?_
        simp only [pick, List.getElem?_toArray, List.getElem?_cons_succ, List.getElem?_cons_zero]
        refine wpList_make_full _ rfl (.tmp 15) (.tmp 15) 113 rfl W4.heap.size 119 i0 _ 8 Tryd.underlying113 hi0 hz0 hz1 _ _ _ _ l.length rfl rfl rfl rfl (by rw [hz2]; omega) (by unfold maxLen; omega) (Nat.le_refl _) ?next
        case next =>
          intro W5 hown hgr
          replace hown := made_rep alike_known hown
          obtain ⟨T', K'⟩ := HT.out.ownRow ((Below.refl _ _).grown hgr (Nat.le_refl _) (fun k hk => by cases hk)) hown (m := w.heap.size) (by omega)
          replace HT := Lib.hid T'
          replace Hr := Lib.hid (Hr.out.move (by decide) K')
          clear T' K'
          replace hz : w.heap.size ≤ W5.heap.size := Nat.le_trans hz hgr.size
          clear hown hgr
          go_wp2_with fail
          refine ⟨?_, ?_⟩
          · simp only [Again, pick, List.getElem?_toArray, List.getElem?_cons_succ, List.getElem?_cons_zero]
            refine ⟨?_, ?_, trivial⟩
            all_goals (still_step; exact wpStill_nil rfl)
          refine tr_still ?_
          simp only [pick, List.getElem?_toArray, List.getElem?_cons_succ, List.getElem?_cons_zero]
          repeat still_step
          refine wpStill_nil ?_
          have hP9 := HT.out.perm (R' := [.row w.heap.size 4 1 (.slice (some ⟨W1.heap.size, 0, none⟩) l.length l.length) l.length (List.replicate (l.length * 1) (.bool false)), .row w.heap.size 119 8 (.slice (some ⟨W4.heap.size, 0, none⟩) l.length l.length) l.length (List.replicate (l.length * 8) (.int .i64 0))]) (.swap _ _ _)
          refine tr_done ?_
          refine ⟨W4.heap.size, W1.heap.size, hP9.1, Hr.out.move (by decide) hP9.2, hz, ?_⟩
          repeat (apply Exists.intro)
          try simp only [Act.put, List.setIfInBounds_toArray, List.set_cons_succ, List.set_cons_zero]
          rfl
  intro a9 Wb hR
  obtain ⟨ga, gd, ht, pHr, nhz, g14, g15, g17, g18, rfl⟩ := hR
  clear HT Hr hz
  have HT := Lib.hid ht
  have Hr : Hid (RdSl insE Wb (Fr 0 [.row w.heap.size 4 1 (.slice (some ⟨gd, 0, none⟩) l.length l.length) l.length (List.replicate (l.length * 1) (.bool false)), .row w.heap.size 119 8 (.slice (some ⟨ga, 0, none⟩) l.length l.length) l.length (List.replicate (l.length * 8) (.int .i64 0))]) (.slice A l.length c) l) := Lib.hid pHr
  have hz := nhz
  clear ht pHr nhz
  try simp only [Act.put, List.setIfInBounds_toArray, List.set_cons_succ, List.set_cons_zero]
  clear hi0 hz0 hz1 hz2 hj0 hy0 hy1 hy2
  rw [← rowsK_zero, Nat.mul_one, show List.replicate l.length (Value.bool false) = (List.replicate l.length false).map .bool by simp] at HT Hr
  replace Hr : Hid (RdSl insE Wb (Fr 0 [.row w.heap.size 4 1 (.slice (some ⟨gd, 0, none⟩) l.length l.length) l.length ((List.replicate l.length false).map .bool), .row w.heap.size 119 8 (.slice (some ⟨ga, 0, none⟩) l.length l.length) l.length (cat (rowsK (List.replicate l.length (List.replicate 8 0))))]) (.slice A l.length c) l) := Hr
  replace HT : Hid (St w.heap.size w Wb [.row w.heap.size 4 1 (.slice (some ⟨gd, 0, none⟩) l.length l.length) l.length ((List.replicate l.length false).map .bool), .row w.heap.size 119 8 (.slice (some ⟨ga, 0, none⟩) l.length l.length) l.length (cat (rowsK (List.replicate l.length (List.replicate 8 0))))]) := HT
  have i1 : (0 : Int) < (l.length : Int) := by omega
  have i1n : 0 < l.length := by omega
  have i1e : l ≠ [] := by intro h; rw [h] at i1n; exact absurd i1n (by decide)
  have hz8 : ∀ k ∈ List.replicate l.length (List.replicate 8 (0 : Int)), k.length = 8 := fun k hk => by rw [(List.mem_replicate.1 hk).2]; rfl
  have he0 : (List.replicate l.length (List.replicate 8 (0 : Int)))[0]? = some (List.replicate 8 0) := by rw [List.getElem?_replicate, if_pos (by omega)]
  have f_a := fun i => HT.out.rowFree 1 rfl i
  have f_d := fun i => HT.out.rowFree 0 rfl i
  have y0 := HT.out.kCell 1 rfl hz8 he0 (j := 0) rfl
  have y1 := HT.out.kCell 1 rfl hz8 he0 (j := 1) rfl
  have y2 := HT.out.yCell 0 rfl (show (List.replicate l.length false)[0]? = some false by rw [List.getElem?_replicate, if_pos (by omega)])
  rw [Nat.zero_mul, Nat.add_zero] at y0
  rw [Nat.zero_mul, Nat.zero_add] at y1
  go_upto_region 2 with fail
  refine wp_region_plan [.still [0, 1, 2, 3, 4, 6], .loud 5 [1, 2, 6], .still [7], .loud 8 [2], .still [9], .loud 10 []] (by kernel_rfl) (by kernel_rfl) ?_
  refine plan_still ?_
  simp only [pick, List.getElem?_toArray, List.getElem?_cons_succ, List.getElem?_cons_zero]
  repeat still_step
  refine wpStill_nil ?_
  refine plan_loud ?_
  simp only [pick, List.getElem?_toArray, List.getElem?_cons_succ, List.getElem?_cons_zero]
  go_wp2_with fail
  clear f_a f_d y0 y1 y2
  obtain ⟨T', K'⟩ := HT.out.kPut 1 0 0 3 rfl hz8 he0 (by decide)
  simp only [List.set_cons_succ, List.set_cons_zero] at T' K'
  replace HT := Lib.hid T'
  replace Hr := Lib.hid (Hr.out.move (by decide) K')
  clear T' K'
  replace hz : w.heap.size ≤ ((Wb.setCell ⟨ga, 0, none⟩ (.int .i64 3))).heap.size := by simpa using hz
  generalize (Wb.setCell ⟨ga, 0, none⟩ (.int .i64 3)) = W6 at *
  have hz9 : ∀ k ∈ (List.replicate l.length (List.replicate 8 (0 : Int))).set 0 ((List.replicate 8 0).set 0 3), k.length = 8 := fun k hk => (List.mem_or_eq_of_mem_set hk).elim (hz8 k) (fun h => by rw [h]; rfl)
  have he1 : ((List.replicate l.length (List.replicate 8 (0 : Int))).set 0 ((List.replicate 8 0).set 0 3))[0]? = some ((List.replicate 8 0).set 0 3) := List.getElem?_set_self (by rw [List.length_replicate]; omega)
  have y1 := HT.out.kCell 1 rfl hz9 he1 (j := 1) rfl
  have f_a := fun i => HT.out.rowFree 1 rfl i
  have f_d := fun i => HT.out.rowFree 0 rfl i
  have y2 := HT.out.yCell 0 rfl (show (List.replicate l.length false)[0]? = some false by rw [List.getElem?_replicate, if_pos (by omega)])
  rw [Nat.zero_mul, Nat.zero_add] at y1
  refine ⟨?_, ?_⟩
  · simp only [Again, pick, List.getElem?_toArray, List.getElem?_cons_succ, List.getElem?_cons_zero]
    refine ⟨?_, ?_, ?_, trivial⟩
    all_goals (still_step; exact wpStill_nil rfl)
  refine plan_still ?_
  simp only [pick, List.getElem?_toArray, List.getElem?_cons_succ, List.getElem?_cons_zero]
  repeat still_step
  refine wpStill_nil ?_
  refine plan_loud ?_
  simp only [pick, List.getElem?_toArray, List.getElem?_cons_succ, List.getElem?_cons_zero]
  go_wp2_with fail
  clear f_a f_d y1 y2
  obtain ⟨T', K'⟩ := HT.out.kPut 1 0 1 3 rfl hz9 he1 (by decide)
  simp only [List.set_cons_succ, List.set_cons_zero] at T' K'
  replace HT := Lib.hid T'
  replace Hr := Lib.hid (Hr.out.move (by decide) K')
  clear T' K'
  replace hz : w.heap.size ≤ ((W6.setCell ⟨ga, 1, none⟩ (.int .i64 3))).heap.size := by simpa using hz
  generalize (W6.setCell ⟨ga, 1, none⟩ (.int .i64 3)) = W7 at *
  have f_d := fun i => HT.out.rowFree 0 rfl i
  have y2 := HT.out.yCell 0 rfl (show (List.replicate l.length false)[0]? = some false by rw [List.getElem?_replicate, if_pos (by omega)])
  refine ⟨?_, ?_⟩
  · simp only [Again, pick, List.getElem?_toArray, List.getElem?_cons_succ, List.getElem?_cons_zero]
    refine ⟨?_, trivial⟩
    all_goals (still_step; exact wpStill_nil rfl)
  refine plan_still ?_
  simp only [pick, List.getElem?_toArray, List.getElem?_cons_succ, List.getElem?_cons_zero]
  repeat still_step
  refine wpStill_nil ?_
  refine plan_loud ?_
  simp only [pick, List.getElem?_toArray, List.getElem?_cons_succ, List.getElem?_cons_zero]
  go_wp2_with fail
  clear f_d y2
  obtain ⟨T', K'⟩ := HT.out.yPut 0 0 true rfl
  simp only [List.set_cons_zero] at T' K'
  replace HT := Lib.hid T'
  replace Hr := Lib.hid (Hr.out.move (by decide) K')
  clear T' K'
  replace hz : w.heap.size ≤ ((W7.setCell ⟨gd, 0, none⟩ (.bool true))).heap.size := by simpa using hz
  generalize (W7.setCell ⟨gd, 0, none⟩ (.bool true)) = W8 at *
  refine ⟨trivial, ?_⟩
  refine plan_end (NoPanic.normal ?_)
  obtain ⟨T', K'⟩ := HT.out.drew'
  replace HT := Lib.hid T'
  replace Hr := Lib.hid (Hr.out.move (by decide) K')
  clear T' K'
  replace hz : w.heap.size ≤ W8.drew.heap.size := hz
  generalize W8.drew = W9 at *
  rw [start_at h1, start_known h1] at HT Hr
  clear hz8 hz9 he0 he1 i1 i1n i1e
  replace Hr : Hid (RdSl insE W9 (Fr 0 [.row w.heap.size 4 1 (.slice (some ⟨gd, 0, none⟩) l.length l.length) l.length ((knownS (start8 l.length)).map .bool), .row w.heap.size 119 8 (.slice (some ⟨ga, 0, none⟩) l.length l.length) l.length (cat (rowsK (padS (start8 l.length))))]) (.slice A l.length c) l) := Hr
  replace HT : Hid (St w.heap.size w W9 [.row w.heap.size 4 1 (.slice (some ⟨gd, 0, none⟩) l.length l.length) l.length ((knownS (start8 l.length)).map .bool), .row w.heap.size 119 8 (.slice (some ⟨ga, 0, none⟩) l.length l.length) l.length (cat (rowsK (padS (start8 l.length))))]) := HT
  have hFI := flowI_start h1
  go_wp2_with fail
  go_loopg [6] (rkS (start8 l.length) + 1) (fun gk ag wl10 => ∃ (fl : Bool) (st : List (List Int)), ag = .bool fl ∧ FlowI l gk fl st ∧ St w.heap.size w wl10 [.row w.heap.size 4 1 (.slice (some ⟨gd, 0, none⟩) l.length l.length) l.length ((knownS st).map .bool), .row w.heap.size 119 8 (.slice (some ⟨ga, 0, none⟩) l.length l.length) l.length (cat (rowsK (padS st)))] ∧ RdSl insE wl10 (Fr 0 [.row w.heap.size 4 1 (.slice (some ⟨gd, 0, none⟩) l.length l.length) l.length ((knownS st).map .bool), .row w.heap.size 119 8 (.slice (some ⟨ga, 0, none⟩) l.length l.length) l.length (cat (rowsK (padS st)))]) (.slice A l.length c) l ∧ w.heap.size ≤ wl10.heap.size)
  case atStart =>
    refine ⟨true, start8 l.length, ?_, ?_, ?_, ?_, ?_⟩
    · rfl
    · exact hFI
    · with_reducible exact HT.out
    · with_reducible exact Hr.out
    · exact hz
  case round =>
    generalize wr = wl10 at *
    clear HT Hr hz
    obtain ⟨fl, st, rfl, hFI, ht, pHr, hz⟩ := hrel
    have HT := Lib.hid ht
    have Hr : Hid (RdSl insE wl10 (Fr 0 [.row w.heap.size 4 1 (.slice (some ⟨gd, 0, none⟩) l.length l.length) l.length ((knownS st).map .bool), .row w.heap.size 119 8 (.slice (some ⟨ga, 0, none⟩) l.length l.length) l.length (cat (rowsK (padS st)))]) (.slice A l.length c) l) := Lib.hid pHr
    clear ht pHr
    have HFI := Lib.hid hFI
    have hlen := hFI.1
    have H8 := Lib.hid hFI.2.1
    have Hlen := Lib.hid hlen
    clear hFI hlen
    cases fl
    · go_wp2_with fail
      have hE := flowI_end HFI.out
      subst hE
      go_ret2
      have hA := HT.out.rdRow (E := knE) (n := w.heap.size) 1 rfl rfl (by rw [padS, List.length_map, Hlen.out]) (rowsK_held (padS_eight H8.out)) (by rw [padS, List.length_map, Hlen.out]; show l.length * 64 ≤ _; omega) (Nat.le_refl _) (by decide)
      have hB := HT.out.rdRow (E := yE) (css := (knownS (flowL l)).map (fun b => [.bool b])) (n := w.heap.size) 0 (by rw [cat_ycs]; rfl) rfl (by rw [knownS, List.length_map, Hlen.out]) (ycs_held _) (by rw [knownS, List.length_map, Hlen.out]; show l.length * 1 ≤ _; omega) (Nat.le_refl _) (by decide)
      exact ⟨_, _, _, _, rfl, hA, hB, HT.out.below⟩
    · go_wp2_with fail
      go_loopw [31, 6] (fun i ag wl11 => ∃ (k : Nat) (fk : Bool) (sk : List (List Int)), i = .int .i64 k ∧ ag = .bool fk ∧ k ≤ l.length ∧ roundTo l st k = (sk, fk) ∧ St w.heap.size w wl11 [.row w.heap.size 4 1 (.slice (some ⟨gd, 0, none⟩) l.length l.length) l.length ((knownS sk).map .bool), .row w.heap.size 119 8 (.slice (some ⟨ga, 0, none⟩) l.length l.length) l.length (cat (rowsK (padS sk)))] ∧ RdSl insE wl11 (Fr 0 [.row w.heap.size 4 1 (.slice (some ⟨gd, 0, none⟩) l.length l.length) l.length ((knownS sk).map .bool), .row w.heap.size 119 8 (.slice (some ⟨ga, 0, none⟩) l.length l.length) l.length (cat (rowsK (padS sk)))]) (.slice A l.length c) l ∧ w.heap.size ≤ wl11.heap.size) (fun i _ _ => l.length - (intOf i).toNat)
      case atStart =>
        refine ⟨0, false, st, ?_, ?_, ?_, ?_, ?_, ?_, ?_⟩
        · rfl
        · rfl
        · exact Nat.zero_le _
        · rfl
        · with_reducible exact HT.out
        · with_reducible exact Hr.out
        · exact hz
      case round =>
        generalize wr = wl11 at *
        clear HT Hr hz
        obtain ⟨k, fk, sk, rfl, rfl, hk, hst, ht, pHr, hz⟩ := hrel
        have HT := Lib.hid ht
        have Hr : Hid (RdSl insE wl11 (Fr 0 [.row w.heap.size 4 1 (.slice (some ⟨gd, 0, none⟩) l.length l.length) l.length ((knownS sk).map .bool), .row w.heap.size 119 8 (.slice (some ⟨ga, 0, none⟩) l.length l.length) l.length (cat (rowsK (padS sk)))]) (.slice A l.length c) l) := Lib.hid pHr
        clear ht pHr
        have hd := roundTo_down (l := l) H8.out k
        rw [hst] at hd
        have K8 := Lib.hid (hd.eights H8.out)
        have hkl : sk.length = l.length := hd.len.trans Hlen.out
        have Klen := Lib.hid hkl
        have Hst := Lib.hid hst
        clear hst hd hkl
        by_cases hlt : k < l.length
        · obtain ⟨x, hx⟩ : ∃ x, l[k]? = some x := ⟨l[k], List.getElem?_eq_getElem hlt⟩
          obtain ⟨fb, fo, rfl, _, _, x0, x1, x2, x3⟩ := Hr.out.at_n hx
          obtain ⟨op, xn, ra, rb, rfl, hop, hra, hrb⟩ := (Hl.out.ins k x hx).nat
          have hjmp : op = 5 ∨ op = 6 → -1000 ≤ xn ∧ xn ≤ 1000 := (Hl.out.ins k _ hx).jump
          have Hways := Lib.hid (Hl.out.ins k _ hx).ways
          obtain ⟨e, he⟩ : ∃ e, sk[k]? = some e := ⟨sk[k]'(by have := Klen.out; omega), List.getElem?_eq_getElem _⟩
          have d0 := HT.out.yCell 0 rfl (knownS_at he)
          have HX := Lib.hid hx
          have i1 : (0 : Int) ≤ (k : Int) := by omega
          have i2 : (k : Int) < (l.length : Int) := by omega
          clear hx
          go_upto_region 9 with fail
          obtain ⟨T', K'⟩ := HT.out.new' #[.int .i64 op, .int .i64 ra, .int .i64 rb, .int .i64 xn] 42 wl11.heap.size (by first | (simp; done) | rfl)
          replace HT := Lib.hid T'
          replace Hr := Lib.hid (Hr.out.move (by decide) K')
          clear T' K'
          replace hz : w.heap.size ≤ ((wl11.alloc (.cells #[.int .i64 op, .int .i64 ra, .int .i64 rb, .int .i64 xn] 42))).heap.size := Nat.le_trans hz (by simp)
          generalize (wl11.alloc (.cells #[.int .i64 op, .int .i64 ra, .int .i64 rb, .int .i64 xn] 42)) = W12 at *
          clear x0 x1 x2 x3 d0
          have d0 := HT.out.yCell 1 rfl (knownS_at he)
          rcases e with _ | ⟨e, es⟩
          · replace d0 : W12.cell? ⟨gd, k, none⟩ = some (.bool false) := d0
            have Hn := Lib.hid (roundTo_none Hst.out he)
            clear he
            obtain ⟨r_x, q_x, -⟩ := HT.out.rules
            have z_x : wl11.heap.size < W12.heap.size := (HT.out.in_ 0 rfl rfl).2
            go_wp2_with fail
            clear d0
            obtain ⟨T', K'⟩ := HT.out.drop 0
            simp only [List.eraseIdx_cons_zero] at T' K'
            replace HT := Lib.hid T'
            replace Hr := Lib.hid (Hr.out.move (by decide) K')
            clear T' K'
            clear r_x q_x z_x
            go_roundw
            case rel =>
              refine ⟨k + 1, fk, sk, ?_, ?_, ?_, ?_, ?_, ?_, ?_⟩
              · go_num
              · rfl
              · omega
              · exact Hn.out
              · with_reducible exact HT.out
              · with_reducible exact Hr.out
              · exact hz
            case measure => simp [intOf]; omega
          · replace d0 : W12.cell? ⟨gd, k, none⟩ = some (.bool true) := d0
            have h8 : (e :: es).length = 8 := (K8.out _ (List.mem_of_getElem? he)).elim (fun h => by cases h) id
            have Hn := Lib.hid (roundTo_some Hst.out he HX.out)
            obtain ⟨k0, k1, k2, k3, k4, k5, k6, k7, hE⟩ := eight h8
            rw [hE] at he Hn
            have hp := padS_at he
            have HP := Lib.hid hp
            obtain ⟨m0, m1, m2, m3, m4, m5, m6, m7, hM⟩ := eight (show (laterP [k0, k1, k2, k3, k4, k5, k6, k7] ⟨op, ra, rb, xn⟩).length = 8 by rw [later_len]; rfl)
            rw [hM] at Hn
            obtain ⟨ws, hws⟩ : ∃ ws, waysP (k : Int) ⟨op, ra, rb, xn⟩ = ws := ⟨_, rfl⟩
            rw [hws] at Hn Hways
            have G := fun W => behind_any [k0, k1, k2, k3, k4, k5, k6, k7] rfl op xn ra rb hop hra hrb W
            simp only [hM] at G
            have G1 : Hid (∀ W, Calls Tryd.prog 97 #[.agg #[.int .i64 k0, .int .i64 k1, .int .i64 k2, .int .i64 k3, .int .i64 k4, .int .i64 k5, .int .i64 k6, .int .i64 k7], .agg #[.int .i64 op, .int .i64 ra, .int .i64 rb, .int .i64 xn]] W fun en W' => en = .returned (.agg #[.int .i64 m0, .int .i64 m1, .int .i64 m2, .int .i64 m3, .int .i64 m4, .int .i64 m5, .int .i64 m6, .int .i64 m7]) ∧ Below W.heap.size W W') := Lib.hid G
            have G3 := fun W => next_any (k : Int) op ra rb xn hop ⟨by omega, by omega⟩ hjmp W
            rw [hws] at G3
            have G2 := Lib.hid G3
            clear G G3 hE hM hws he hp h8
            obtain ⟨r_x, q_x, -⟩ := HT.out.rules
            have z_x : wl11.heap.size < W12.heap.size := (HT.out.in_ 0 rfl rfl).2
            have y0 := HT.out.kCell 2 rfl (padS_eight K8.out) HP.out (j := 0) rfl
            have y1 := HT.out.kCell 2 rfl (padS_eight K8.out) HP.out (j := 1) rfl
            have y2 := HT.out.kCell 2 rfl (padS_eight K8.out) HP.out (j := 2) rfl
            have y3 := HT.out.kCell 2 rfl (padS_eight K8.out) HP.out (j := 3) rfl
            have y4 := HT.out.kCell 2 rfl (padS_eight K8.out) HP.out (j := 4) rfl
            have y5 := HT.out.kCell 2 rfl (padS_eight K8.out) HP.out (j := 5) rfl
            have y6 := HT.out.kCell 2 rfl (padS_eight K8.out) HP.out (j := 6) rfl
            have y7 := HT.out.kCell 2 rfl (padS_eight K8.out) HP.out (j := 7) rfl
            rw [Nat.add_zero] at y0
            have f_y := fun i => HT.out.rowFree 2 rfl i
            go_upto_region 10 with fail
            clear d0
            refine wp_region_tree (.still [0, 1, 2, 3, 4] (.alt (.loud 5 [] (.loud 6 [0, 1, 2, 3, 4] (.loud 7 [] .done))) (.loud 6 [0, 1, 2, 3, 4] (.loud 5 [] (.loud 7 [] .done))))) (fun a9 b9 w9 => ∃ (bk : Nat), St w.heap.size w w9 [.blk bk #[.int .i64 m0, .int .i64 m1, .int .i64 m2, .int .i64 m3, .int .i64 m4, .int .i64 m5, .int .i64 m6, .int .i64 m7] 119, .blk wl11.heap.size #[.int .i64 op, .int .i64 ra, .int .i64 rb, .int .i64 xn] 42, .row w.heap.size 4 1 (.slice (some ⟨gd, 0, none⟩) l.length l.length) l.length ((knownS sk).map .bool), .row w.heap.size 119 8 (.slice (some ⟨ga, 0, none⟩) l.length l.length) l.length (cat (rowsK (padS sk)))] ∧ RdSl insE w9 (Fr 0 [.blk bk #[.int .i64 m0, .int .i64 m1, .int .i64 m2, .int .i64 m3, .int .i64 m4, .int .i64 m5, .int .i64 m6, .int .i64 m7] 119, .blk wl11.heap.size #[.int .i64 op, .int .i64 ra, .int .i64 rb, .int .i64 xn] 42, .row w.heap.size 4 1 (.slice (some ⟨gd, 0, none⟩) l.length l.length) l.length ((knownS sk).map .bool), .row w.heap.size 119 8 (.slice (some ⟨ga, 0, none⟩) l.length l.length) l.length (cat (rowsK (padS sk)))]) (.slice (some ⟨fb, fo, none⟩) l.length c) l ∧ w.heap.size ≤ w9.heap.size ∧ ∃ (g41 : Value) (g42 : Value) (g43 : Value) (g44 : Value) (g45 : Value), b9 = (((((((a9.put (some 41) g41).put (some 42) g42).put (some 43) g43).put (some 44) g44).put (some 45) g45).put (some 46) (.agg #[.int .i64 m0, .int .i64 m1, .int .i64 m2, .int .i64 m3, .int .i64 m4, .int .i64 m5, .int .i64 m6, .int .i64 m7])).put (some 9) (.pointer (some ⟨bk, 0, none⟩)))) (by kernel_rfl) (by kernel_rfl) ?_ ?_
            focus
              obtain ⟨T', K'⟩ := HT.out.drew'
              replace HT := Lib.hid T'
              replace Hr := Lib.hid (Hr.out.move (by decide) K')
              clear T' K'
              replace hz : w.heap.size ≤ W12.drew.heap.size := hz
              clear r_x q_x z_x y0 y1 y2 y3 y4 y5 y6 y7 f_y
              generalize W12.drew = W14 at *
              obtain ⟨r_x, q_x, -⟩ := HT.out.rules
              have z_x : wl11.heap.size < W14.heap.size := (HT.out.in_ 0 rfl rfl).2
              have y0 := HT.out.kCell 2 rfl (padS_eight K8.out) HP.out (j := 0) rfl
              have y1 := HT.out.kCell 2 rfl (padS_eight K8.out) HP.out (j := 1) rfl
              have y2 := HT.out.kCell 2 rfl (padS_eight K8.out) HP.out (j := 2) rfl
              have y3 := HT.out.kCell 2 rfl (padS_eight K8.out) HP.out (j := 3) rfl
              have y4 := HT.out.kCell 2 rfl (padS_eight K8.out) HP.out (j := 4) rfl
              have y5 := HT.out.kCell 2 rfl (padS_eight K8.out) HP.out (j := 5) rfl
              have y6 := HT.out.kCell 2 rfl (padS_eight K8.out) HP.out (j := 6) rfl
              have y7 := HT.out.kCell 2 rfl (padS_eight K8.out) HP.out (j := 7) rfl
              rw [Nat.add_zero] at y0
              have f_y := fun i => HT.out.rowFree 2 rfl i
              refine tr_still ?_
              simp only [pick, List.getElem?_toArray, List.getElem?_cons_succ, List.getElem?_cons_zero]
              repeat still_step
              refine wpStill_nil ?_
              refine tr_alt ?_ ?_
              · refine tr_loud ?_
                simp only [pick, List.getElem?_toArray, List.getElem?_cons_succ, List.getElem?_cons_zero]
                go_wp2_with fail
                refine (G1.out _).mono ?_
                rintro en W15 ⟨rfl, hb⟩
                obtain ⟨T', K'⟩ := HT.out.call hb
                replace HT := Lib.hid T'
                replace Hr := Lib.hid (Hr.out.move (by decide) K')
                clear T' K'
                replace hz : w.heap.size ≤ W15.heap.size := Nat.le_trans hz hb.size
                clear hb
                clear r_x q_x z_x y0 y1 y2 y3 y4 y5 y6 y7 f_y
                obtain ⟨r_x, q_x, -⟩ := HT.out.rules
                have z_x : wl11.heap.size < W15.heap.size := (HT.out.in_ 0 rfl rfl).2
                have y0 := HT.out.kCell 2 rfl (padS_eight K8.out) HP.out (j := 0) rfl
                have y1 := HT.out.kCell 2 rfl (padS_eight K8.out) HP.out (j := 1) rfl
                have y2 := HT.out.kCell 2 rfl (padS_eight K8.out) HP.out (j := 2) rfl
                have y3 := HT.out.kCell 2 rfl (padS_eight K8.out) HP.out (j := 3) rfl
                have y4 := HT.out.kCell 2 rfl (padS_eight K8.out) HP.out (j := 4) rfl
                have y5 := HT.out.kCell 2 rfl (padS_eight K8.out) HP.out (j := 5) rfl
                have y6 := HT.out.kCell 2 rfl (padS_eight K8.out) HP.out (j := 6) rfl
                have y7 := HT.out.kCell 2 rfl (padS_eight K8.out) HP.out (j := 7) rfl
                rw [Nat.add_zero] at y0
                have f_y := fun i => HT.out.rowFree 2 rfl i
                go_wp2_with fail
                refine ⟨trivial, ?_⟩
                refine tr_loud ?_
                simp only [pick, List.getElem?_toArray, List.getElem?_cons_succ, List.getElem?_cons_zero]
                go_wp2_with fail
                obtain ⟨T', K'⟩ := HT.out.new' #[.int .i64 0, .int .i64 0, .int .i64 0, .int .i64 0, .int .i64 0, .int .i64 0, .int .i64 0, .int .i64 0] 119 W15.heap.size (by first | (simp; done) | rfl)
                replace HT := Lib.hid T'
                replace Hr := Lib.hid (Hr.out.move (by decide) K')
                clear T' K'
                replace hz : w.heap.size ≤ ((W15.alloc (.cells #[.int .i64 0, .int .i64 0, .int .i64 0, .int .i64 0, .int .i64 0, .int .i64 0, .int .i64 0, .int .i64 0] 119))).heap.size := Nat.le_trans hz (by simp)
                clear r_x q_x z_x y0 y1 y2 y3 y4 y5 y6 y7 f_y
                generalize (W15.alloc (.cells #[.int .i64 0, .int .i64 0, .int .i64 0, .int .i64 0, .int .i64 0, .int .i64 0, .int .i64 0, .int .i64 0] 119)) = W16 at *
                obtain ⟨r_k, q_k, r_x, q_x, -⟩ := HT.out.rules
                have z_k : W15.heap.size < W16.heap.size := (HT.out.in_ 0 rfl rfl).2
                have z_x : wl11.heap.size < W16.heap.size := (HT.out.in_ 1 rfl rfl).2
                have y0 := HT.out.kCell 3 rfl (padS_eight K8.out) HP.out (j := 0) rfl
                have y1 := HT.out.kCell 3 rfl (padS_eight K8.out) HP.out (j := 1) rfl
                have y2 := HT.out.kCell 3 rfl (padS_eight K8.out) HP.out (j := 2) rfl
                have y3 := HT.out.kCell 3 rfl (padS_eight K8.out) HP.out (j := 3) rfl
                have y4 := HT.out.kCell 3 rfl (padS_eight K8.out) HP.out (j := 4) rfl
                have y5 := HT.out.kCell 3 rfl (padS_eight K8.out) HP.out (j := 5) rfl
                have y6 := HT.out.kCell 3 rfl (padS_eight K8.out) HP.out (j := 6) rfl
                have y7 := HT.out.kCell 3 rfl (padS_eight K8.out) HP.out (j := 7) rfl
                rw [Nat.add_zero] at y0
                have f_y := fun i => HT.out.rowFree 3 rfl i
                refine ⟨?_, ?_⟩
                · simp only [Again, pick, List.getElem?_toArray, List.getElem?_cons_succ, List.getElem?_cons_zero]
                  refine ⟨?_, ?_, ?_, ?_, ?_, trivial⟩
                  all_goals (still_step; exact wpStill_nil rfl)
                refine tr_loud ?_
                simp only [pick, List.getElem?_toArray, List.getElem?_cons_succ, List.getElem?_cons_zero]
                go_wp2_with fail
                clear r_k q_k r_x q_x z_k z_x y0 y1 y2 y3 y4 y5 y6 y7 f_y
                have hF := HT.out.fill8 0 (.int .i64 m0) (.int .i64 m1) (.int .i64 m2) (.int .i64 m3) (.int .i64 m4) (.int .i64 m5) (.int .i64 m6) (.int .i64 m7) rfl rfl
                unfold fill8W at hF
                generalize ((((((((W16.setCell ⟨W15.heap.size, 0, none⟩ (.int .i64 m0)).setCell ⟨W15.heap.size, 1, none⟩ (.int .i64 m1)).setCell ⟨W15.heap.size, 2, none⟩ (.int .i64 m2)).setCell ⟨W15.heap.size, 3, none⟩ (.int .i64 m3)).setCell ⟨W15.heap.size, 4, none⟩ (.int .i64 m4)).setCell ⟨W15.heap.size, 5, none⟩ (.int .i64 m5)).setCell ⟨W15.heap.size, 6, none⟩ (.int .i64 m6)).setCell ⟨W15.heap.size, 7, none⟩ (.int .i64 m7)) = W17 at *
                obtain ⟨T', K', hZ⟩ := hF
                replace T' : St w.heap.size w W17 [.blk W15.heap.size #[.int .i64 m0, .int .i64 m1, .int .i64 m2, .int .i64 m3, .int .i64 m4, .int .i64 m5, .int .i64 m6, .int .i64 m7] 119, .blk wl11.heap.size #[.int .i64 op, .int .i64 ra, .int .i64 rb, .int .i64 xn] 42, .row w.heap.size 4 1 (.slice (some ⟨gd, 0, none⟩) l.length l.length) l.length ((knownS sk).map .bool), .row w.heap.size 119 8 (.slice (some ⟨ga, 0, none⟩) l.length l.length) l.length (cat (rowsK (padS sk)))] := T'
                replace K' : Keeps W16 [.blk W15.heap.size #[.int .i64 0, .int .i64 0, .int .i64 0, .int .i64 0, .int .i64 0, .int .i64 0, .int .i64 0, .int .i64 0] 119, .blk wl11.heap.size #[.int .i64 op, .int .i64 ra, .int .i64 rb, .int .i64 xn] 42, .row w.heap.size 4 1 (.slice (some ⟨gd, 0, none⟩) l.length l.length) l.length ((knownS sk).map .bool), .row w.heap.size 119 8 (.slice (some ⟨ga, 0, none⟩) l.length l.length) l.length (cat (rowsK (padS sk)))] W17 [.blk W15.heap.size #[.int .i64 m0, .int .i64 m1, .int .i64 m2, .int .i64 m3, .int .i64 m4, .int .i64 m5, .int .i64 m6, .int .i64 m7] 119, .blk wl11.heap.size #[.int .i64 op, .int .i64 ra, .int .i64 rb, .int .i64 xn] 42, .row w.heap.size 4 1 (.slice (some ⟨gd, 0, none⟩) l.length l.length) l.length ((knownS sk).map .bool), .row w.heap.size 119 8 (.slice (some ⟨ga, 0, none⟩) l.length l.length) l.length (cat (rowsK (padS sk)))] := K'
                replace HT := Lib.hid T'
                replace Hr := Lib.hid (Hr.out.move (by decide) K')
                replace hz : w.heap.size ≤ W17.heap.size := by rw [hZ]; exact hz
                clear T' K' hZ
                refine ⟨trivial, ?_⟩
                have hP9 := HT.out.perm (R' := [.blk W15.heap.size #[.int .i64 m0, .int .i64 m1, .int .i64 m2, .int .i64 m3, .int .i64 m4, .int .i64 m5, .int .i64 m6, .int .i64 m7] 119, .blk wl11.heap.size #[.int .i64 op, .int .i64 ra, .int .i64 rb, .int .i64 xn] 42, .row w.heap.size 4 1 (.slice (some ⟨gd, 0, none⟩) l.length l.length) l.length ((knownS sk).map .bool), .row w.heap.size 119 8 (.slice (some ⟨ga, 0, none⟩) l.length l.length) l.length (cat (rowsK (padS sk)))]) (.refl _)
                refine tr_done ?_
                refine ⟨W15.heap.size, hP9.1, Hr.out.move (by decide) hP9.2, hz, ?_⟩
                repeat (apply Exists.intro)
                try simp only [Act.put, List.setIfInBounds_toArray, List.set_cons_succ, List.set_cons_zero]
                rfl
              · refine tr_loud ?_
                simp only [pick, List.getElem?_toArray, List.getElem?_cons_succ, List.getElem?_cons_zero]
                go_wp2_with fail
                obtain ⟨T', K'⟩ := HT.out.new' #[.int .i64 0, .int .i64 0, .int .i64 0, .int .i64 0, .int .i64 0, .int .i64 0, .int .i64 0, .int .i64 0] 119 W14.heap.size (by first | (simp; done) | rfl)
                replace HT := Lib.hid T'
                replace Hr := Lib.hid (Hr.out.move (by decide) K')
                clear T' K'
                replace hz : w.heap.size ≤ ((W14.alloc (.cells #[.int .i64 0, .int .i64 0, .int .i64 0, .int .i64 0, .int .i64 0, .int .i64 0, .int .i64 0, .int .i64 0] 119))).heap.size := Nat.le_trans hz (by simp)
                clear r_x q_x z_x y0 y1 y2 y3 y4 y5 y6 y7 f_y
                generalize (W14.alloc (.cells #[.int .i64 0, .int .i64 0, .int .i64 0, .int .i64 0, .int .i64 0, .int .i64 0, .int .i64 0, .int .i64 0] 119)) = W18 at *
                obtain ⟨r_k, q_k, r_x, q_x, -⟩ := HT.out.rules
                have z_k : W14.heap.size < W18.heap.size := (HT.out.in_ 0 rfl rfl).2
                have z_x : wl11.heap.size < W18.heap.size := (HT.out.in_ 1 rfl rfl).2
                have y0 := HT.out.kCell 3 rfl (padS_eight K8.out) HP.out (j := 0) rfl
                have y1 := HT.out.kCell 3 rfl (padS_eight K8.out) HP.out (j := 1) rfl
                have y2 := HT.out.kCell 3 rfl (padS_eight K8.out) HP.out (j := 2) rfl
                have y3 := HT.out.kCell 3 rfl (padS_eight K8.out) HP.out (j := 3) rfl
                have y4 := HT.out.kCell 3 rfl (padS_eight K8.out) HP.out (j := 4) rfl
                have y5 := HT.out.kCell 3 rfl (padS_eight K8.out) HP.out (j := 5) rfl
                have y6 := HT.out.kCell 3 rfl (padS_eight K8.out) HP.out (j := 6) rfl
                have y7 := HT.out.kCell 3 rfl (padS_eight K8.out) HP.out (j := 7) rfl
                rw [Nat.add_zero] at y0
                have f_y := fun i => HT.out.rowFree 3 rfl i
                refine ⟨?_, ?_⟩
                · simp only [Again, pick, List.getElem?_toArray, List.getElem?_cons_succ, List.getElem?_cons_zero]
                  refine ⟨?_, ?_, ?_, ?_, ?_, trivial⟩
                  all_goals (still_step; exact wpStill_nil rfl)
                refine tr_loud ?_
                simp only [pick, List.getElem?_toArray, List.getElem?_cons_succ, List.getElem?_cons_zero]
                go_wp2_with fail
                refine (G1.out _).mono ?_
                rintro en W19 ⟨rfl, hb⟩
                obtain ⟨T', K'⟩ := HT.out.call hb
                replace HT := Lib.hid T'
                replace Hr := Lib.hid (Hr.out.move (by decide) K')
                clear T' K'
                replace hz : w.heap.size ≤ W19.heap.size := Nat.le_trans hz hb.size
                clear hb
                clear r_k q_k r_x q_x z_k z_x y0 y1 y2 y3 y4 y5 y6 y7 f_y
                obtain ⟨r_k, q_k, r_x, q_x, -⟩ := HT.out.rules
                have z_k : W14.heap.size < W19.heap.size := (HT.out.in_ 0 rfl rfl).2
                have z_x : wl11.heap.size < W19.heap.size := (HT.out.in_ 1 rfl rfl).2
                have y0 := HT.out.kCell 3 rfl (padS_eight K8.out) HP.out (j := 0) rfl
                have y1 := HT.out.kCell 3 rfl (padS_eight K8.out) HP.out (j := 1) rfl
                have y2 := HT.out.kCell 3 rfl (padS_eight K8.out) HP.out (j := 2) rfl
                have y3 := HT.out.kCell 3 rfl (padS_eight K8.out) HP.out (j := 3) rfl
                have y4 := HT.out.kCell 3 rfl (padS_eight K8.out) HP.out (j := 4) rfl
                have y5 := HT.out.kCell 3 rfl (padS_eight K8.out) HP.out (j := 5) rfl
                have y6 := HT.out.kCell 3 rfl (padS_eight K8.out) HP.out (j := 6) rfl
                have y7 := HT.out.kCell 3 rfl (padS_eight K8.out) HP.out (j := 7) rfl
                rw [Nat.add_zero] at y0
                have f_y := fun i => HT.out.rowFree 3 rfl i
                go_wp2_with fail
                refine ⟨trivial, ?_⟩
                refine tr_loud ?_
                simp only [pick, List.getElem?_toArray, List.getElem?_cons_succ, List.getElem?_cons_zero]
                go_wp2_with fail
                clear r_k q_k r_x q_x z_k z_x y0 y1 y2 y3 y4 y5 y6 y7 f_y
                have hF := HT.out.fill8 0 (.int .i64 m0) (.int .i64 m1) (.int .i64 m2) (.int .i64 m3) (.int .i64 m4) (.int .i64 m5) (.int .i64 m6) (.int .i64 m7) rfl rfl
                unfold fill8W at hF
                generalize ((((((((W19.setCell ⟨W14.heap.size, 0, none⟩ (.int .i64 m0)).setCell ⟨W14.heap.size, 1, none⟩ (.int .i64 m1)).setCell ⟨W14.heap.size, 2, none⟩ (.int .i64 m2)).setCell ⟨W14.heap.size, 3, none⟩ (.int .i64 m3)).setCell ⟨W14.heap.size, 4, none⟩ (.int .i64 m4)).setCell ⟨W14.heap.size, 5, none⟩ (.int .i64 m5)).setCell ⟨W14.heap.size, 6, none⟩ (.int .i64 m6)).setCell ⟨W14.heap.size, 7, none⟩ (.int .i64 m7)) = W20 at *
                obtain ⟨T', K', hZ⟩ := hF
                replace T' : St w.heap.size w W20 [.blk W14.heap.size #[.int .i64 m0, .int .i64 m1, .int .i64 m2, .int .i64 m3, .int .i64 m4, .int .i64 m5, .int .i64 m6, .int .i64 m7] 119, .blk wl11.heap.size #[.int .i64 op, .int .i64 ra, .int .i64 rb, .int .i64 xn] 42, .row w.heap.size 4 1 (.slice (some ⟨gd, 0, none⟩) l.length l.length) l.length ((knownS sk).map .bool), .row w.heap.size 119 8 (.slice (some ⟨ga, 0, none⟩) l.length l.length) l.length (cat (rowsK (padS sk)))] := T'
                replace K' : Keeps W19 [.blk W14.heap.size #[.int .i64 0, .int .i64 0, .int .i64 0, .int .i64 0, .int .i64 0, .int .i64 0, .int .i64 0, .int .i64 0] 119, .blk wl11.heap.size #[.int .i64 op, .int .i64 ra, .int .i64 rb, .int .i64 xn] 42, .row w.heap.size 4 1 (.slice (some ⟨gd, 0, none⟩) l.length l.length) l.length ((knownS sk).map .bool), .row w.heap.size 119 8 (.slice (some ⟨ga, 0, none⟩) l.length l.length) l.length (cat (rowsK (padS sk)))] W20 [.blk W14.heap.size #[.int .i64 m0, .int .i64 m1, .int .i64 m2, .int .i64 m3, .int .i64 m4, .int .i64 m5, .int .i64 m6, .int .i64 m7] 119, .blk wl11.heap.size #[.int .i64 op, .int .i64 ra, .int .i64 rb, .int .i64 xn] 42, .row w.heap.size 4 1 (.slice (some ⟨gd, 0, none⟩) l.length l.length) l.length ((knownS sk).map .bool), .row w.heap.size 119 8 (.slice (some ⟨ga, 0, none⟩) l.length l.length) l.length (cat (rowsK (padS sk)))] := K'
                replace HT := Lib.hid T'
                replace Hr := Lib.hid (Hr.out.move (by decide) K')
                replace hz : w.heap.size ≤ W20.heap.size := by rw [hZ]; exact hz
                clear T' K' hZ
                refine ⟨trivial, ?_⟩
                have hP9 := HT.out.perm (R' := [.blk W14.heap.size #[.int .i64 m0, .int .i64 m1, .int .i64 m2, .int .i64 m3, .int .i64 m4, .int .i64 m5, .int .i64 m6, .int .i64 m7] 119, .blk wl11.heap.size #[.int .i64 op, .int .i64 ra, .int .i64 rb, .int .i64 xn] 42, .row w.heap.size 4 1 (.slice (some ⟨gd, 0, none⟩) l.length l.length) l.length ((knownS sk).map .bool), .row w.heap.size 119 8 (.slice (some ⟨ga, 0, none⟩) l.length l.length) l.length (cat (rowsK (padS sk)))]) (.refl _)
                refine tr_done ?_
                refine ⟨W14.heap.size, hP9.1, Hr.out.move (by decide) hP9.2, hz, ?_⟩
                repeat (apply Exists.intro)
                try simp only [Act.put, List.setIfInBounds_toArray, List.set_cons_succ, List.set_cons_zero]
                rfl
            clear r_x q_x z_x y0 y1 y2 y3 y4 y5 y6 y7 f_y
            intro a9 W13 hR
            obtain ⟨bk, ht, pHr, nhz, g41, g42, g43, g44, g45, rfl⟩ := hR
            clear HT Hr hz
            have HT := Lib.hid ht
            have Hr : Hid (RdSl insE W13 (Fr 0 [.blk bk #[.int .i64 m0, .int .i64 m1, .int .i64 m2, .int .i64 m3, .int .i64 m4, .int .i64 m5, .int .i64 m6, .int .i64 m7] 119, .blk wl11.heap.size #[.int .i64 op, .int .i64 ra, .int .i64 rb, .int .i64 xn] 42, .row w.heap.size 4 1 (.slice (some ⟨gd, 0, none⟩) l.length l.length) l.length ((knownS sk).map .bool), .row w.heap.size 119 8 (.slice (some ⟨ga, 0, none⟩) l.length l.length) l.length (cat (rowsK (padS sk)))]) (.slice (some ⟨fb, fo, none⟩) l.length c) l) := Lib.hid pHr
            have hz := nhz
            clear ht pHr nhz
            try simp only [Act.put, List.setIfInBounds_toArray, List.set_cons_succ, List.set_cons_zero]
            obtain ⟨r_k, q_k, r_x, q_x, -⟩ := HT.out.rules
            have z_k : bk < W13.heap.size := (HT.out.in_ 0 rfl rfl).2
            have z_x : wl11.heap.size < W13.heap.size := (HT.out.in_ 1 rfl rfl).2
            go_wp2_with fail
            refine (G2.out _).mono ?_
            rintro en W21 ⟨Aw, cw, rfl, hrd, hb⟩
            clear r_k q_k r_x q_x z_k z_x
            have Hfresh := Lib.hid (HT.out)
            have hzo : w.heap.size ≤ W13.heap.size := by omega
            obtain ⟨T', K'⟩ := HT.out.call hb
            replace HT := Lib.hid T'
            replace Hr := Lib.hid (Hr.out.move (by decide) K')
            clear T' K'
            replace hz : w.heap.size ≤ W21.heap.size := Nat.le_trans hz hb.size
            clear hb
            have Hw : Hid (RdSl iE W21 (Fr w.heap.size [.blk bk #[.int .i64 m0, .int .i64 m1, .int .i64 m2, .int .i64 m3, .int .i64 m4, .int .i64 m5, .int .i64 m6, .int .i64 m7] 119, .blk wl11.heap.size #[.int .i64 op, .int .i64 ra, .int .i64 rb, .int .i64 xn] 42, .row w.heap.size 4 1 (.slice (some ⟨gd, 0, none⟩) l.length l.length) l.length ((knownS sk).map .bool), .row w.heap.size 119 8 (.slice (some ⟨ga, 0, none⟩) l.length l.length) l.length (cat (rowsK (padS sk)))]) (.slice Aw ws.length cw) ws) := Lib.hid (hrd.fresh (by first | decide | (show 0 < 1; omega)) Hfresh.out hzo)
            clear hrd
            clear Hfresh hzo
            obtain ⟨r_k, q_k, r_x, q_x, -⟩ := HT.out.rules
            have z_k : bk < W21.heap.size := (HT.out.in_ 0 rfl rfl).2
            have z_x : wl11.heap.size < W21.heap.size := (HT.out.in_ 1 rfl rfl).2
            go_wp2_with fail
            clear G1 G2
            obtain ⟨-, lw1, lw2, -⟩ := Hw.out.lims
            go_loopw [51, 6] (fun i ag wl22 => ∃ (j : Nat) (fj : Bool) (sj : List (List Int)), i = .int .i64 j ∧ ag = .bool fj ∧ j ≤ ws.length ∧ (ws.take j).foldl (stepT [m0, m1, m2, m3, m4, m5, m6, m7]) (sk, fk) = (sj, fj) ∧ St w.heap.size w wl22 [.blk bk #[.int .i64 m0, .int .i64 m1, .int .i64 m2, .int .i64 m3, .int .i64 m4, .int .i64 m5, .int .i64 m6, .int .i64 m7] 119, .blk wl11.heap.size #[.int .i64 op, .int .i64 ra, .int .i64 rb, .int .i64 xn] 42, .row w.heap.size 4 1 (.slice (some ⟨gd, 0, none⟩) l.length l.length) l.length ((knownS sj).map .bool), .row w.heap.size 119 8 (.slice (some ⟨ga, 0, none⟩) l.length l.length) l.length (cat (rowsK (padS sj)))] ∧ RdSl insE wl22 (Fr 0 [.blk bk #[.int .i64 m0, .int .i64 m1, .int .i64 m2, .int .i64 m3, .int .i64 m4, .int .i64 m5, .int .i64 m6, .int .i64 m7] 119, .blk wl11.heap.size #[.int .i64 op, .int .i64 ra, .int .i64 rb, .int .i64 xn] 42, .row w.heap.size 4 1 (.slice (some ⟨gd, 0, none⟩) l.length l.length) l.length ((knownS sj).map .bool), .row w.heap.size 119 8 (.slice (some ⟨ga, 0, none⟩) l.length l.length) l.length (cat (rowsK (padS sj)))]) (.slice (some ⟨fb, fo, none⟩) l.length c) l ∧ RdSl iE wl22 (Fr w.heap.size [.blk bk #[.int .i64 m0, .int .i64 m1, .int .i64 m2, .int .i64 m3, .int .i64 m4, .int .i64 m5, .int .i64 m6, .int .i64 m7] 119, .blk wl11.heap.size #[.int .i64 op, .int .i64 ra, .int .i64 rb, .int .i64 xn] 42, .row w.heap.size 4 1 (.slice (some ⟨gd, 0, none⟩) l.length l.length) l.length ((knownS sj).map .bool), .row w.heap.size 119 8 (.slice (some ⟨ga, 0, none⟩) l.length l.length) l.length (cat (rowsK (padS sj)))]) (.slice Aw ws.length cw) ws ∧ w.heap.size ≤ wl22.heap.size) (fun i _ _ => ws.length - (intOf i).toNat)
            case atStart =>
              refine ⟨0, fk, sk, ?_, ?_, ?_, ?_, ?_, ?_, ?_, ?_⟩
              · rfl
              · rfl
              · exact Nat.zero_le _
              · rfl
              · with_reducible exact HT.out
              · with_reducible exact Hr.out
              · with_reducible exact Hw.out
              · exact hz
            case round =>
              generalize wr = wl22 at *
              clear HT Hr Hw hz
              obtain ⟨j, fj, sj, rfl, rfl, hj, hsj, ht, pHr, pHw, hz⟩ := hrel
              have HT := Lib.hid ht
              have Hr : Hid (RdSl insE wl22 (Fr 0 [.blk bk #[.int .i64 m0, .int .i64 m1, .int .i64 m2, .int .i64 m3, .int .i64 m4, .int .i64 m5, .int .i64 m6, .int .i64 m7] 119, .blk wl11.heap.size #[.int .i64 op, .int .i64 ra, .int .i64 rb, .int .i64 xn] 42, .row w.heap.size 4 1 (.slice (some ⟨gd, 0, none⟩) l.length l.length) l.length ((knownS sj).map .bool), .row w.heap.size 119 8 (.slice (some ⟨ga, 0, none⟩) l.length l.length) l.length (cat (rowsK (padS sj)))]) (.slice (some ⟨fb, fo, none⟩) l.length c) l) := Lib.hid pHr
              have Hw : Hid (RdSl iE wl22 (Fr w.heap.size [.blk bk #[.int .i64 m0, .int .i64 m1, .int .i64 m2, .int .i64 m3, .int .i64 m4, .int .i64 m5, .int .i64 m6, .int .i64 m7] 119, .blk wl11.heap.size #[.int .i64 op, .int .i64 ra, .int .i64 rb, .int .i64 xn] 42, .row w.heap.size 4 1 (.slice (some ⟨gd, 0, none⟩) l.length l.length) l.length ((knownS sj).map .bool), .row w.heap.size 119 8 (.slice (some ⟨ga, 0, none⟩) l.length l.length) l.length (cat (rowsK (padS sj)))]) (.slice Aw ws.length cw) ws) := Lib.hid pHw
              clear ht pHr pHw
              have hd := foldT_down (k := [m0, m1, m2, m3, m4, m5, m6, m7]) rfl (ws.take j) (sk, fk)
              rw [hsj] at hd
              have J8 := Lib.hid (hd.eights K8.out)
              have hjl : sj.length = l.length := hd.len.trans Klen.out
              have Jlen := Lib.hid hjl
              have Hsj := Lib.hid hsj
              clear hsj hd hjl
              by_cases hjt : j < ws.length
              · obtain ⟨t, ht⟩ : ∃ t, ws[j]? = some t := ⟨ws[j], List.getElem?_eq_getElem hjt⟩
                have htb := Hways.out t (List.mem_of_getElem? ht)
                obtain ⟨t, rfl⟩ := Int.eq_ofNat_of_zero_le htb.1
                have htl : t < l.length := by omega
                obtain ⟨wb, wo, rfl, _, _, t0⟩ := Hw.out.at_i ht
                obtain ⟨e, he⟩ : ∃ e, sj[t]? = some e := ⟨sj[t]'(by have := Jlen.out; omega), List.getElem?_eq_getElem _⟩
                have hnx := fold_next ht (f := stepT [m0, m1, m2, m3, m4, m5, m6, m7]) (sk, fk)
                rw [Hsj.out] at hnx
                have Hnx := Lib.hid hnx
                obtain ⟨p, hp⟩ : ∃ p, (padS sj)[t]? = some p := ⟨_, List.getElem?_eq_getElem (show t < (padS sj).length by rw [padS, List.length_map, Jlen.out]; exact htl)⟩
                obtain ⟨p0, p1, p2, p3, p4, p5, p6, p7, hp8⟩ := eight (padS_eight J8.out p (List.mem_of_getElem? hp))
                subst hp8
                have HP2 := Lib.hid hp
                have i1 : (0 : Int) ≤ (j : Int) := by omega
                have i4 : (j : Int) < (ws.length : Int) := by omega
                have i5 : (0 : Int) ≤ (t : Int) := by omega
                have i6 : (t : Int) < (l.length : Int) := by omega
                clear ht hnx hp htb
                obtain ⟨r_k, q_k, -⟩ := HT.out.rules
                have z_k : bk < wl22.heap.size := (HT.out.in_ 0 rfl rfl).2
                have y0 := HT.out.kCell 3 rfl (padS_eight J8.out) HP2.out (j := 0) rfl
                have y1 := HT.out.kCell 3 rfl (padS_eight J8.out) HP2.out (j := 1) rfl
                have y2 := HT.out.kCell 3 rfl (padS_eight J8.out) HP2.out (j := 2) rfl
                have y3 := HT.out.kCell 3 rfl (padS_eight J8.out) HP2.out (j := 3) rfl
                have y4 := HT.out.kCell 3 rfl (padS_eight J8.out) HP2.out (j := 4) rfl
                have y5 := HT.out.kCell 3 rfl (padS_eight J8.out) HP2.out (j := 5) rfl
                have y6 := HT.out.kCell 3 rfl (padS_eight J8.out) HP2.out (j := 6) rfl
                have y7 := HT.out.kCell 3 rfl (padS_eight J8.out) HP2.out (j := 7) rfl
                rw [Nat.add_zero] at y0
                have f_y := fun i => HT.out.rowFree 3 rfl i
                have d0 := HT.out.yCell 2 rfl (knownS_at he)
                go_upto_region 15 with fail
                clear r_k q_k z_k y0 y1 y2 y3 y4 y5 y6 y7 f_y d0
                obtain ⟨T', K'⟩ := HT.out.new' #[.int .i64 p0, .int .i64 p1, .int .i64 p2, .int .i64 p3, .int .i64 p4, .int .i64 p5, .int .i64 p6, .int .i64 p7] 119 wl22.heap.size (by first | (simp; done) | rfl)
                replace HT := Lib.hid T'
                replace Hr := Lib.hid (Hr.out.move (by decide) K')
                replace Hw := Lib.hid (Hw.out.move (by decide) K')
                clear T' K'
                replace hz : w.heap.size ≤ ((wl22.alloc (.cells #[.int .i64 p0, .int .i64 p1, .int .i64 p2, .int .i64 p3, .int .i64 p4, .int .i64 p5, .int .i64 p6, .int .i64 p7] 119))).heap.size := Nat.le_trans hz (by simp)
                generalize (wl22.alloc (.cells #[.int .i64 p0, .int .i64 p1, .int .i64 p2, .int .i64 p3, .int .i64 p4, .int .i64 p5, .int .i64 p6, .int .i64 p7] 119)) = W23 at *
                clear t0
                obtain ⟨r_was, q_was, r_k, q_k, -⟩ := HT.out.rules
                have z_was : wl22.heap.size < W23.heap.size := (HT.out.in_ 0 rfl rfl).2
                have z_k : bk < W23.heap.size := (HT.out.in_ 1 rfl rfl).2
                have y0 := HT.out.kCell 4 rfl (padS_eight J8.out) HP2.out (j := 0) rfl
                have y1 := HT.out.kCell 4 rfl (padS_eight J8.out) HP2.out (j := 1) rfl
                have y2 := HT.out.kCell 4 rfl (padS_eight J8.out) HP2.out (j := 2) rfl
                have y3 := HT.out.kCell 4 rfl (padS_eight J8.out) HP2.out (j := 3) rfl
                have y4 := HT.out.kCell 4 rfl (padS_eight J8.out) HP2.out (j := 4) rfl
                have y5 := HT.out.kCell 4 rfl (padS_eight J8.out) HP2.out (j := 5) rfl
                have y6 := HT.out.kCell 4 rfl (padS_eight J8.out) HP2.out (j := 6) rfl
                have y7 := HT.out.kCell 4 rfl (padS_eight J8.out) HP2.out (j := 7) rfl
                rw [Nat.add_zero] at y0
                have f_y := fun i => HT.out.rowFree 4 rfl i
                have d0 := HT.out.yCell 3 rfl (knownS_at he)
                have f_d := fun i => HT.out.rowFree 3 rfl i
                rcases e with _ | ⟨e, es⟩
                · replace d0 : W23.cell? ⟨gd, t, none⟩ = some (.bool false) := d0
                  have HN := Lib.hid (Hnx.out.trans (stepT_new he))
                  have Hne := Lib.hid he
                  clear he
                  have hne : ga ≠ gd := (HT.out.ne 3 4 (by decide) rfl rfl rfl rfl).symm
                  have hne2 := hne.symm
                  have hkn : bk ≠ ga := HT.out.ne 1 4 (by decide) rfl rfl rfl rfl
                  have hkn2 := hkn.symm
                  go_upto_region 23 with fail
                  clear hne hne2 hkn hkn2
                  clear r_was q_was r_k q_k z_was z_k y0 y1 y2 y3 y4 y5 y6 y7 f_y d0 f_d
                  have hF := HT.out.kPut8 4 t rfl (padS_eight J8.out) (by rw [padS, List.length_map, Jlen.out]; exact htl) m0 m1 m2 m3 m4 m5 m6 m7
                  generalize ((((((((W23.setCell ⟨ga, t * 8, none⟩ (.int .i64 m0)).setCell ⟨ga, t * 8 + 1, none⟩ (.int .i64 m1)).setCell ⟨ga, t * 8 + 2, none⟩ (.int .i64 m2)).setCell ⟨ga, t * 8 + 3, none⟩ (.int .i64 m3)).setCell ⟨ga, t * 8 + 4, none⟩ (.int .i64 m4)).setCell ⟨ga, t * 8 + 5, none⟩ (.int .i64 m5)).setCell ⟨ga, t * 8 + 6, none⟩ (.int .i64 m6)).setCell ⟨ga, t * 8 + 7, none⟩ (.int .i64 m7)) = W24 at *
                  obtain ⟨T', K', hZ⟩ := hF
                  rw [padS_set (List.cons_ne_nil _ _)] at T' K'
                  replace T' : St w.heap.size w W24 [.blk wl22.heap.size #[.int .i64 p0, .int .i64 p1, .int .i64 p2, .int .i64 p3, .int .i64 p4, .int .i64 p5, .int .i64 p6, .int .i64 p7] 119, .blk bk #[.int .i64 m0, .int .i64 m1, .int .i64 m2, .int .i64 m3, .int .i64 m4, .int .i64 m5, .int .i64 m6, .int .i64 m7] 119, .blk wl11.heap.size #[.int .i64 op, .int .i64 ra, .int .i64 rb, .int .i64 xn] 42, .row w.heap.size 4 1 (.slice (some ⟨gd, 0, none⟩) l.length l.length) l.length ((knownS sj).map .bool), .row w.heap.size 119 8 (.slice (some ⟨ga, 0, none⟩) l.length l.length) l.length (cat (rowsK (padS (sj.set t [m0, m1, m2, m3, m4, m5, m6, m7]))))] := T'
                  replace K' : Keeps W23 [.blk wl22.heap.size #[.int .i64 p0, .int .i64 p1, .int .i64 p2, .int .i64 p3, .int .i64 p4, .int .i64 p5, .int .i64 p6, .int .i64 p7] 119, .blk bk #[.int .i64 m0, .int .i64 m1, .int .i64 m2, .int .i64 m3, .int .i64 m4, .int .i64 m5, .int .i64 m6, .int .i64 m7] 119, .blk wl11.heap.size #[.int .i64 op, .int .i64 ra, .int .i64 rb, .int .i64 xn] 42, .row w.heap.size 4 1 (.slice (some ⟨gd, 0, none⟩) l.length l.length) l.length ((knownS sj).map .bool), .row w.heap.size 119 8 (.slice (some ⟨ga, 0, none⟩) l.length l.length) l.length (cat (rowsK (padS sj)))] W24 [.blk wl22.heap.size #[.int .i64 p0, .int .i64 p1, .int .i64 p2, .int .i64 p3, .int .i64 p4, .int .i64 p5, .int .i64 p6, .int .i64 p7] 119, .blk bk #[.int .i64 m0, .int .i64 m1, .int .i64 m2, .int .i64 m3, .int .i64 m4, .int .i64 m5, .int .i64 m6, .int .i64 m7] 119, .blk wl11.heap.size #[.int .i64 op, .int .i64 ra, .int .i64 rb, .int .i64 xn] 42, .row w.heap.size 4 1 (.slice (some ⟨gd, 0, none⟩) l.length l.length) l.length ((knownS sj).map .bool), .row w.heap.size 119 8 (.slice (some ⟨ga, 0, none⟩) l.length l.length) l.length (cat (rowsK (padS (sj.set t [m0, m1, m2, m3, m4, m5, m6, m7]))))] := K'
                  replace HT := Lib.hid T'
                  replace Hr := Lib.hid (Hr.out.move (by decide) K')
                  replace Hw := Lib.hid (Hw.out.move (by decide) K')
                  replace hz : w.heap.size ≤ W24.heap.size := by rw [hZ]; exact hz
                  clear T' K' hZ
                  obtain ⟨T', K'⟩ := HT.out.yPut 3 t true rfl
                  simp only [List.set_cons_succ, List.set_cons_zero] at T' K'
                  replace HT := Lib.hid T'
                  replace Hr := Lib.hid (Hr.out.move (by decide) K')
                  replace Hw := Lib.hid (Hw.out.move (by decide) K')
                  clear T' K'
                  replace hz : w.heap.size ≤ ((W24.setCell ⟨gd, t, none⟩ (.bool true))).heap.size := by simpa using hz
                  generalize (W24.setCell ⟨gd, t, none⟩ (.bool true)) = W25 at *
                  rw [knownS_set (k := [m0, m1, m2, m3, m4, m5, m6, m7]) (List.cons_ne_nil _ _)] at HT Hr Hw
                  replace Hr : Hid (RdSl insE W25 (Fr 0 [.blk wl22.heap.size #[.int .i64 p0, .int .i64 p1, .int .i64 p2, .int .i64 p3, .int .i64 p4, .int .i64 p5, .int .i64 p6, .int .i64 p7] 119, .blk bk #[.int .i64 m0, .int .i64 m1, .int .i64 m2, .int .i64 m3, .int .i64 m4, .int .i64 m5, .int .i64 m6, .int .i64 m7] 119, .blk wl11.heap.size #[.int .i64 op, .int .i64 ra, .int .i64 rb, .int .i64 xn] 42, .row w.heap.size 4 1 (.slice (some ⟨gd, 0, none⟩) l.length l.length) l.length ((knownS (sj.set t [m0, m1, m2, m3, m4, m5, m6, m7])).map .bool), .row w.heap.size 119 8 (.slice (some ⟨ga, 0, none⟩) l.length l.length) l.length (cat (rowsK (padS (sj.set t [m0, m1, m2, m3, m4, m5, m6, m7]))))]) (.slice (some ⟨fb, fo, none⟩) l.length c) l) := Hr
                  replace Hw : Hid (RdSl iE W25 (Fr w.heap.size [.blk wl22.heap.size #[.int .i64 p0, .int .i64 p1, .int .i64 p2, .int .i64 p3, .int .i64 p4, .int .i64 p5, .int .i64 p6, .int .i64 p7] 119, .blk bk #[.int .i64 m0, .int .i64 m1, .int .i64 m2, .int .i64 m3, .int .i64 m4, .int .i64 m5, .int .i64 m6, .int .i64 m7] 119, .blk wl11.heap.size #[.int .i64 op, .int .i64 ra, .int .i64 rb, .int .i64 xn] 42, .row w.heap.size 4 1 (.slice (some ⟨gd, 0, none⟩) l.length l.length) l.length ((knownS (sj.set t [m0, m1, m2, m3, m4, m5, m6, m7])).map .bool), .row w.heap.size 119 8 (.slice (some ⟨ga, 0, none⟩) l.length l.length) l.length (cat (rowsK (padS (sj.set t [m0, m1, m2, m3, m4, m5, m6, m7]))))]) (.slice (some ⟨wb, wo, none⟩) ws.length cw) ws) := Hw
                  replace HT : Hid (St w.heap.size w W25 [.blk wl22.heap.size #[.int .i64 p0, .int .i64 p1, .int .i64 p2, .int .i64 p3, .int .i64 p4, .int .i64 p5, .int .i64 p6, .int .i64 p7] 119, .blk bk #[.int .i64 m0, .int .i64 m1, .int .i64 m2, .int .i64 m3, .int .i64 m4, .int .i64 m5, .int .i64 m6, .int .i64 m7] 119, .blk wl11.heap.size #[.int .i64 op, .int .i64 ra, .int .i64 rb, .int .i64 xn] 42, .row w.heap.size 4 1 (.slice (some ⟨gd, 0, none⟩) l.length l.length) l.length ((knownS (sj.set t [m0, m1, m2, m3, m4, m5, m6, m7])).map .bool), .row w.heap.size 119 8 (.slice (some ⟨ga, 0, none⟩) l.length l.length) l.length (cat (rowsK (padS (sj.set t [m0, m1, m2, m3, m4, m5, m6, m7]))))]) := HT
                  obtain ⟨T', K'⟩ := HT.out.drop 0
                  simp only [List.eraseIdx_cons_zero] at T' K'
                  replace HT := Lib.hid T'
                  replace Hr := Lib.hid (Hr.out.move (by decide) K')
                  replace Hw := Lib.hid (Hw.out.move (by decide) K')
                  clear T' K'
                  go_wp2_with fail
                  go_roundw
                  case rel =>
                    refine ⟨j + 1, true, sj.set t [m0, m1, m2, m3, m4, m5, m6, m7], ?_, ?_, ?_, ?_, ?_, ?_, ?_, ?_⟩
                    · go_num
                    · rfl
                    · omega
                    · exact HN.out
                    · with_reducible exact HT.out
                    · with_reducible exact Hr.out
                    · with_reducible exact Hw.out
                    · exact hz
                  case measure => simp [intOf]; omega
                · replace d0 : W23.cell? ⟨gd, t, none⟩ = some (.bool true) := d0
                  have hpe := padS_at he
                  rw [HP2.out] at hpe
                  have hpe2 := Option.some.inj hpe
                  rw [← hpe2] at he
                  have HN := Lib.hid (Hnx.out.trans (stepT_old he))
                  have Hne := Lib.hid he
                  clear he hpe hpe2
                  go_wp2_with fail
                  clear r_was q_was r_k q_k z_was z_k y0 y1 y2 y3 y4 y5 y6 y7 f_y d0 f_d
                  have hj0 : (padS sj).set t (joinTo [p0, p1, p2, p3, p4, p5, p6, p7] [m0, m1, m2, m3, m4, m5, m6, m7] 0) = padS sj := by rw [joinTo_zero]; have := (List.getElem?_eq_some_iff.1 HP2.out); rw [← this.2, List.set_getElem_self]
                  rw [← hj0] at HT Hr Hw
                  clear hj0
                  replace Hr : Hid (RdSl insE W23 (Fr 0 [.blk wl22.heap.size #[.int .i64 p0, .int .i64 p1, .int .i64 p2, .int .i64 p3, .int .i64 p4, .int .i64 p5, .int .i64 p6, .int .i64 p7] 119, .blk bk #[.int .i64 m0, .int .i64 m1, .int .i64 m2, .int .i64 m3, .int .i64 m4, .int .i64 m5, .int .i64 m6, .int .i64 m7] 119, .blk wl11.heap.size #[.int .i64 op, .int .i64 ra, .int .i64 rb, .int .i64 xn] 42, .row w.heap.size 4 1 (.slice (some ⟨gd, 0, none⟩) l.length l.length) l.length ((knownS sj).map .bool), .row w.heap.size 119 8 (.slice (some ⟨ga, 0, none⟩) l.length l.length) l.length (cat (rowsK ((padS sj).set t (joinTo [p0, p1, p2, p3, p4, p5, p6, p7] [m0, m1, m2, m3, m4, m5, m6, m7] 0))))]) (.slice (some ⟨fb, fo, none⟩) l.length c) l) := Hr
                  replace Hw : Hid (RdSl iE W23 (Fr w.heap.size [.blk wl22.heap.size #[.int .i64 p0, .int .i64 p1, .int .i64 p2, .int .i64 p3, .int .i64 p4, .int .i64 p5, .int .i64 p6, .int .i64 p7] 119, .blk bk #[.int .i64 m0, .int .i64 m1, .int .i64 m2, .int .i64 m3, .int .i64 m4, .int .i64 m5, .int .i64 m6, .int .i64 m7] 119, .blk wl11.heap.size #[.int .i64 op, .int .i64 ra, .int .i64 rb, .int .i64 xn] 42, .row w.heap.size 4 1 (.slice (some ⟨gd, 0, none⟩) l.length l.length) l.length ((knownS sj).map .bool), .row w.heap.size 119 8 (.slice (some ⟨ga, 0, none⟩) l.length l.length) l.length (cat (rowsK ((padS sj).set t (joinTo [p0, p1, p2, p3, p4, p5, p6, p7] [m0, m1, m2, m3, m4, m5, m6, m7] 0))))]) (.slice (some ⟨wb, wo, none⟩) ws.length cw) ws) := Hw
                  replace HT : Hid (St w.heap.size w W23 [.blk wl22.heap.size #[.int .i64 p0, .int .i64 p1, .int .i64 p2, .int .i64 p3, .int .i64 p4, .int .i64 p5, .int .i64 p6, .int .i64 p7] 119, .blk bk #[.int .i64 m0, .int .i64 m1, .int .i64 m2, .int .i64 m3, .int .i64 m4, .int .i64 m5, .int .i64 m6, .int .i64 m7] 119, .blk wl11.heap.size #[.int .i64 op, .int .i64 ra, .int .i64 rb, .int .i64 xn] 42, .row w.heap.size 4 1 (.slice (some ⟨gd, 0, none⟩) l.length l.length) l.length ((knownS sj).map .bool), .row w.heap.size 119 8 (.slice (some ⟨ga, 0, none⟩) l.length l.length) l.length (cat (rowsK ((padS sj).set t (joinTo [p0, p1, p2, p3, p4, p5, p6, p7] [m0, m1, m2, m3, m4, m5, m6, m7] 0))))]) := HT
                  go_loopw [71] (fun i wl26 => ∃ r : Nat, i = .int .i64 r ∧ r ≤ 8 ∧ St w.heap.size w wl26 [.blk wl22.heap.size #[.int .i64 p0, .int .i64 p1, .int .i64 p2, .int .i64 p3, .int .i64 p4, .int .i64 p5, .int .i64 p6, .int .i64 p7] 119, .blk bk #[.int .i64 m0, .int .i64 m1, .int .i64 m2, .int .i64 m3, .int .i64 m4, .int .i64 m5, .int .i64 m6, .int .i64 m7] 119, .blk wl11.heap.size #[.int .i64 op, .int .i64 ra, .int .i64 rb, .int .i64 xn] 42, .row w.heap.size 4 1 (.slice (some ⟨gd, 0, none⟩) l.length l.length) l.length ((knownS sj).map .bool), .row w.heap.size 119 8 (.slice (some ⟨ga, 0, none⟩) l.length l.length) l.length (cat (rowsK ((padS sj).set t (joinTo [p0, p1, p2, p3, p4, p5, p6, p7] [m0, m1, m2, m3, m4, m5, m6, m7] r))))] ∧ RdSl insE wl26 (Fr 0 [.blk wl22.heap.size #[.int .i64 p0, .int .i64 p1, .int .i64 p2, .int .i64 p3, .int .i64 p4, .int .i64 p5, .int .i64 p6, .int .i64 p7] 119, .blk bk #[.int .i64 m0, .int .i64 m1, .int .i64 m2, .int .i64 m3, .int .i64 m4, .int .i64 m5, .int .i64 m6, .int .i64 m7] 119, .blk wl11.heap.size #[.int .i64 op, .int .i64 ra, .int .i64 rb, .int .i64 xn] 42, .row w.heap.size 4 1 (.slice (some ⟨gd, 0, none⟩) l.length l.length) l.length ((knownS sj).map .bool), .row w.heap.size 119 8 (.slice (some ⟨ga, 0, none⟩) l.length l.length) l.length (cat (rowsK ((padS sj).set t (joinTo [p0, p1, p2, p3, p4, p5, p6, p7] [m0, m1, m2, m3, m4, m5, m6, m7] r))))]) (.slice (some ⟨fb, fo, none⟩) l.length c) l ∧ RdSl iE wl26 (Fr w.heap.size [.blk wl22.heap.size #[.int .i64 p0, .int .i64 p1, .int .i64 p2, .int .i64 p3, .int .i64 p4, .int .i64 p5, .int .i64 p6, .int .i64 p7] 119, .blk bk #[.int .i64 m0, .int .i64 m1, .int .i64 m2, .int .i64 m3, .int .i64 m4, .int .i64 m5, .int .i64 m6, .int .i64 m7] 119, .blk wl11.heap.size #[.int .i64 op, .int .i64 ra, .int .i64 rb, .int .i64 xn] 42, .row w.heap.size 4 1 (.slice (some ⟨gd, 0, none⟩) l.length l.length) l.length ((knownS sj).map .bool), .row w.heap.size 119 8 (.slice (some ⟨ga, 0, none⟩) l.length l.length) l.length (cat (rowsK ((padS sj).set t (joinTo [p0, p1, p2, p3, p4, p5, p6, p7] [m0, m1, m2, m3, m4, m5, m6, m7] r))))]) (.slice (some ⟨wb, wo, none⟩) ws.length cw) ws ∧ w.heap.size ≤ wl26.heap.size) (fun i _ => 8 - (intOf i).toNat)
                  case atStart =>
                    refine ⟨0, ?_, ?_, ?_, ?_, ?_, ?_⟩
                    · rfl
                    · exact Nat.zero_le _
                    · with_reducible exact HT.out
                    · with_reducible exact Hr.out
                    · with_reducible exact Hw.out
                    · exact hz
                  case round =>
                    generalize wr = wl26 at *
                    clear HT Hr Hw hz
                    obtain ⟨r, rfl, hr8, ht, pHr, pHw, hz⟩ := hrel
                    have HT := Lib.hid ht
                    have Hr : Hid (RdSl insE wl26 (Fr 0 [.blk wl22.heap.size #[.int .i64 p0, .int .i64 p1, .int .i64 p2, .int .i64 p3, .int .i64 p4, .int .i64 p5, .int .i64 p6, .int .i64 p7] 119, .blk bk #[.int .i64 m0, .int .i64 m1, .int .i64 m2, .int .i64 m3, .int .i64 m4, .int .i64 m5, .int .i64 m6, .int .i64 m7] 119, .blk wl11.heap.size #[.int .i64 op, .int .i64 ra, .int .i64 rb, .int .i64 xn] 42, .row w.heap.size 4 1 (.slice (some ⟨gd, 0, none⟩) l.length l.length) l.length ((knownS sj).map .bool), .row w.heap.size 119 8 (.slice (some ⟨ga, 0, none⟩) l.length l.length) l.length (cat (rowsK ((padS sj).set t (joinTo [p0, p1, p2, p3, p4, p5, p6, p7] [m0, m1, m2, m3, m4, m5, m6, m7] r))))]) (.slice (some ⟨fb, fo, none⟩) l.length c) l) := Lib.hid pHr
                    have Hw : Hid (RdSl iE wl26 (Fr w.heap.size [.blk wl22.heap.size #[.int .i64 p0, .int .i64 p1, .int .i64 p2, .int .i64 p3, .int .i64 p4, .int .i64 p5, .int .i64 p6, .int .i64 p7] 119, .blk bk #[.int .i64 m0, .int .i64 m1, .int .i64 m2, .int .i64 m3, .int .i64 m4, .int .i64 m5, .int .i64 m6, .int .i64 m7] 119, .blk wl11.heap.size #[.int .i64 op, .int .i64 ra, .int .i64 rb, .int .i64 xn] 42, .row w.heap.size 4 1 (.slice (some ⟨gd, 0, none⟩) l.length l.length) l.length ((knownS sj).map .bool), .row w.heap.size 119 8 (.slice (some ⟨ga, 0, none⟩) l.length l.length) l.length (cat (rowsK ((padS sj).set t (joinTo [p0, p1, p2, p3, p4, p5, p6, p7] [m0, m1, m2, m3, m4, m5, m6, m7] r))))]) (.slice (some ⟨wb, wo, none⟩) ws.length cw) ws) := Lib.hid pHw
                    clear ht pHr pHw
                    have hE3 : ∀ k ∈ (padS sj).set t (joinTo [p0, p1, p2, p3, p4, p5, p6, p7] [m0, m1, m2, m3, m4, m5, m6, m7] r), k.length = 8 := fun k hk => (List.mem_or_eq_of_mem_set hk).elim (padS_eight J8.out k) (fun h => by rw [h, joinTo_len (x := [p0, p1, p2, p3, p4, p5, p6, p7]) (k := [m0, m1, m2, m3, m4, m5, m6, m7]) rfl]; rfl)
                    have hE4 : ((padS sj).set t (joinTo [p0, p1, p2, p3, p4, p5, p6, p7] [m0, m1, m2, m3, m4, m5, m6, m7] r))[t]? = some (joinTo [p0, p1, p2, p3, p4, p5, p6, p7] [m0, m1, m2, m3, m4, m5, m6, m7] r) := List.getElem?_set_self (by rw [padS, List.length_map, Jlen.out]; exact htl)
                    have HE3 := Lib.hid hE3
                    have HE4 := Lib.hid hE4
                    clear hE3 hE4
                    by_cases hrt : r < 8
                    · obtain ⟨p, hp⟩ : ∃ p, [p0, p1, p2, p3, p4, p5, p6, p7][r]? = some p := ⟨_, List.getElem?_eq_getElem (show r < 8 from hrt)⟩
                      obtain ⟨m, hm⟩ : ∃ m, [m0, m1, m2, m3, m4, m5, m6, m7][r]? = some m := ⟨_, List.getElem?_eq_getElem (show r < 8 from hrt)⟩
                      have y0 := HT.out.kCell 4 rfl HE3.out HE4.out (joinTo_at hp (show r ≤ 8 from hr8))
                      have z0 : wl26.cell? ⟨bk, r, none⟩ = some (.int .i64 m) := kc_cell (k := [m0, m1, m2, m3, m4, m5, m6, m7]) (HT.out.heap 1 rfl) hm
                      have f_a := fun i => HT.out.rowFree 4 rfl i
                      have Hjn := Lib.hid (joinTo_next hp hm)
                      have i7 : (0 : Int) ≤ (r : Int) := by omega
                      have i8 : (r : Int) < 8 := by omega
                      clear hp hm
                      go_wp2_with fail
                      refine wp_region_plan [.still [0, 1, 2, 3, 4, 5, 6, 7, 8, 9, 10, 11, 13], .loud 12 [0, 1, 2, 13], .still [14], .loud 15 []] (by kernel_rfl) (by kernel_rfl) ?_
                      refine plan_still ?_
                      simp only [pick, List.getElem?_toArray, List.getElem?_cons_succ, List.getElem?_cons_zero]
                      repeat still_step
                      refine wpStill_nil ?_
                      refine plan_loud ?_
                      simp only [pick, List.getElem?_toArray, List.getElem?_cons_succ, List.getElem?_cons_zero]
                      go_wp2_with fail
                      refine (join_any _ _ _).mono ?_
                      rintro en W' ⟨rfl, rfl⟩
                      go_wp2_with fail
                      refine ⟨?_, ?_⟩
                      · simp only [Again, pick, List.getElem?_toArray, List.getElem?_cons_succ, List.getElem?_cons_zero]
                        refine ⟨?_, ?_, ?_, ?_, trivial⟩
                        all_goals (still_step; exact wpStill_nil rfl)
                      refine plan_still ?_
                      simp only [pick, List.getElem?_toArray, List.getElem?_cons_succ, List.getElem?_cons_zero]
                      repeat still_step
                      refine wpStill_nil ?_
                      refine plan_loud ?_
                      simp only [pick, List.getElem?_toArray, List.getElem?_cons_succ, List.getElem?_cons_zero]
                      go_wp2_with fail
                      clear y0 z0 f_a
                      obtain ⟨T', K'⟩ := HT.out.kPut 4 t r (joinN p m) rfl HE3.out HE4.out hrt
                      simp only [List.set_cons_succ, List.set_cons_zero] at T' K'
                      replace HT := Lib.hid T'
                      replace Hr := Lib.hid (Hr.out.move (by decide) K')
                      replace Hw := Lib.hid (Hw.out.move (by decide) K')
                      clear T' K'
                      replace hz : w.heap.size ≤ ((wl26.setCell ⟨ga, t * 8 + r, none⟩ (.int .i64 (joinN p m)))).heap.size := by simpa using hz
                      generalize (wl26.setCell ⟨ga, t * 8 + r, none⟩ (.int .i64 (joinN p m))) = W27 at *
                      refine ⟨trivial, ?_⟩
                      refine plan_end (NoPanic.normal ?_)
                      obtain ⟨T', K'⟩ := HT.out.drew'
                      replace HT := Lib.hid T'
                      replace Hr := Lib.hid (Hr.out.move (by decide) K')
                      replace Hw := Lib.hid (Hw.out.move (by decide) K')
                      clear T' K'
                      replace hz : w.heap.size ≤ W27.drew.heap.size := hz
                      generalize W27.drew = W28 at *
                      rw [List.set_set, Hjn.out] at HT Hr Hw
                      replace Hr : Hid (RdSl insE W28 (Fr 0 [.blk wl22.heap.size #[.int .i64 p0, .int .i64 p1, .int .i64 p2, .int .i64 p3, .int .i64 p4, .int .i64 p5, .int .i64 p6, .int .i64 p7] 119, .blk bk #[.int .i64 m0, .int .i64 m1, .int .i64 m2, .int .i64 m3, .int .i64 m4, .int .i64 m5, .int .i64 m6, .int .i64 m7] 119, .blk wl11.heap.size #[.int .i64 op, .int .i64 ra, .int .i64 rb, .int .i64 xn] 42, .row w.heap.size 4 1 (.slice (some ⟨gd, 0, none⟩) l.length l.length) l.length ((knownS sj).map .bool), .row w.heap.size 119 8 (.slice (some ⟨ga, 0, none⟩) l.length l.length) l.length (cat (rowsK ((padS sj).set t (joinTo [p0, p1, p2, p3, p4, p5, p6, p7] [m0, m1, m2, m3, m4, m5, m6, m7] (r + 1)))))]) (.slice (some ⟨fb, fo, none⟩) l.length c) l) := Hr
                      replace Hw : Hid (RdSl iE W28 (Fr w.heap.size [.blk wl22.heap.size #[.int .i64 p0, .int .i64 p1, .int .i64 p2, .int .i64 p3, .int .i64 p4, .int .i64 p5, .int .i64 p6, .int .i64 p7] 119, .blk bk #[.int .i64 m0, .int .i64 m1, .int .i64 m2, .int .i64 m3, .int .i64 m4, .int .i64 m5, .int .i64 m6, .int .i64 m7] 119, .blk wl11.heap.size #[.int .i64 op, .int .i64 ra, .int .i64 rb, .int .i64 xn] 42, .row w.heap.size 4 1 (.slice (some ⟨gd, 0, none⟩) l.length l.length) l.length ((knownS sj).map .bool), .row w.heap.size 119 8 (.slice (some ⟨ga, 0, none⟩) l.length l.length) l.length (cat (rowsK ((padS sj).set t (joinTo [p0, p1, p2, p3, p4, p5, p6, p7] [m0, m1, m2, m3, m4, m5, m6, m7] (r + 1)))))]) (.slice (some ⟨wb, wo, none⟩) ws.length cw) ws) := Hw
                      replace HT : Hid (St w.heap.size w W28 [.blk wl22.heap.size #[.int .i64 p0, .int .i64 p1, .int .i64 p2, .int .i64 p3, .int .i64 p4, .int .i64 p5, .int .i64 p6, .int .i64 p7] 119, .blk bk #[.int .i64 m0, .int .i64 m1, .int .i64 m2, .int .i64 m3, .int .i64 m4, .int .i64 m5, .int .i64 m6, .int .i64 m7] 119, .blk wl11.heap.size #[.int .i64 op, .int .i64 ra, .int .i64 rb, .int .i64 xn] 42, .row w.heap.size 4 1 (.slice (some ⟨gd, 0, none⟩) l.length l.length) l.length ((knownS sj).map .bool), .row w.heap.size 119 8 (.slice (some ⟨ga, 0, none⟩) l.length l.length) l.length (cat (rowsK ((padS sj).set t (joinTo [p0, p1, p2, p3, p4, p5, p6, p7] [m0, m1, m2, m3, m4, m5, m6, m7] (r + 1)))))]) := HT
                      go_wp2_with fail
                      go_roundw
                      case rel =>
                        refine ⟨r + 1, ?_, ?_, ?_, ?_, ?_, ?_⟩
                        · go_num
                        · omega
                        · with_reducible exact HT.out
                        · with_reducible exact Hr.out
                        · with_reducible exact Hw.out
                        · exact hz
                      case measure => simp [intOf]; omega
                    · obtain rfl : r = 8 := by omega
                      obtain ⟨Z, hZ⟩ : ∃ Z, [p0, p1, p2, p3, p4, p5, p6, p7].zipWith joinN [m0, m1, m2, m3, m4, m5, m6, m7] = Z := ⟨_, rfl⟩
                      have hja : joinTo [p0, p1, p2, p3, p4, p5, p6, p7] [m0, m1, m2, m3, m4, m5, m6, m7] 8 = Z := (joinTo_all (x := [p0, p1, p2, p3, p4, p5, p6, p7]) (k := [m0, m1, m2, m3, m4, m5, m6, m7]) rfl).trans hZ
                      obtain ⟨z0, z1, z2, z3, z4, z5, z6, z7, hZ8⟩ := eight (show Z.length = 8 by rw [← hZ]; rfl)
                      subst hZ8
                      rw [hZ] at HN
                      rw [hja] at HE3 HE4 HT Hr Hw
                      rw [padS_set (List.cons_ne_nil _ _)] at HE3 HE4 HT Hr Hw
                      have HE5 := Lib.hid (knownS_same (k := [z0, z1, z2, z3, z4, z5, z6, z7]) Hne.out (List.cons_ne_nil _ _) (List.cons_ne_nil _ _))
                      rw [← HE5.out] at HT Hr Hw
                      clear hja hZ HE5 hr8 hrt
                      replace Hr : Hid (RdSl insE wl26 (Fr 0 [.blk wl22.heap.size #[.int .i64 p0, .int .i64 p1, .int .i64 p2, .int .i64 p3, .int .i64 p4, .int .i64 p5, .int .i64 p6, .int .i64 p7] 119, .blk bk #[.int .i64 m0, .int .i64 m1, .int .i64 m2, .int .i64 m3, .int .i64 m4, .int .i64 m5, .int .i64 m6, .int .i64 m7] 119, .blk wl11.heap.size #[.int .i64 op, .int .i64 ra, .int .i64 rb, .int .i64 xn] 42, .row w.heap.size 4 1 (.slice (some ⟨gd, 0, none⟩) l.length l.length) l.length ((knownS (sj.set t [z0, z1, z2, z3, z4, z5, z6, z7])).map .bool), .row w.heap.size 119 8 (.slice (some ⟨ga, 0, none⟩) l.length l.length) l.length (cat (rowsK (padS (sj.set t [z0, z1, z2, z3, z4, z5, z6, z7]))))]) (.slice (some ⟨fb, fo, none⟩) l.length c) l) := Hr
                      replace Hw : Hid (RdSl iE wl26 (Fr w.heap.size [.blk wl22.heap.size #[.int .i64 p0, .int .i64 p1, .int .i64 p2, .int .i64 p3, .int .i64 p4, .int .i64 p5, .int .i64 p6, .int .i64 p7] 119, .blk bk #[.int .i64 m0, .int .i64 m1, .int .i64 m2, .int .i64 m3, .int .i64 m4, .int .i64 m5, .int .i64 m6, .int .i64 m7] 119, .blk wl11.heap.size #[.int .i64 op, .int .i64 ra, .int .i64 rb, .int .i64 xn] 42, .row w.heap.size 4 1 (.slice (some ⟨gd, 0, none⟩) l.length l.length) l.length ((knownS (sj.set t [z0, z1, z2, z3, z4, z5, z6, z7])).map .bool), .row w.heap.size 119 8 (.slice (some ⟨ga, 0, none⟩) l.length l.length) l.length (cat (rowsK (padS (sj.set t [z0, z1, z2, z3, z4, z5, z6, z7]))))]) (.slice (some ⟨wb, wo, none⟩) ws.length cw) ws) := Hw
                      replace HT : Hid (St w.heap.size w wl26 [.blk wl22.heap.size #[.int .i64 p0, .int .i64 p1, .int .i64 p2, .int .i64 p3, .int .i64 p4, .int .i64 p5, .int .i64 p6, .int .i64 p7] 119, .blk bk #[.int .i64 m0, .int .i64 m1, .int .i64 m2, .int .i64 m3, .int .i64 m4, .int .i64 m5, .int .i64 m6, .int .i64 m7] 119, .blk wl11.heap.size #[.int .i64 op, .int .i64 ra, .int .i64 rb, .int .i64 xn] 42, .row w.heap.size 4 1 (.slice (some ⟨gd, 0, none⟩) l.length l.length) l.length ((knownS (sj.set t [z0, z1, z2, z3, z4, z5, z6, z7])).map .bool), .row w.heap.size 119 8 (.slice (some ⟨ga, 0, none⟩) l.length l.length) l.length (cat (rowsK (padS (sj.set t [z0, z1, z2, z3, z4, z5, z6, z7]))))]) := HT
                      obtain ⟨r_was, q_was, -⟩ := HT.out.rules
                      have z_was : wl22.heap.size < wl26.heap.size := (HT.out.in_ 0 rfl rfl).2
                      have y0 := HT.out.kCell 4 rfl HE3.out HE4.out (j := 0) rfl
                      have y1 := HT.out.kCell 4 rfl HE3.out HE4.out (j := 1) rfl
                      have y2 := HT.out.kCell 4 rfl HE3.out HE4.out (j := 2) rfl
                      have y3 := HT.out.kCell 4 rfl HE3.out HE4.out (j := 3) rfl
                      have y4 := HT.out.kCell 4 rfl HE3.out HE4.out (j := 4) rfl
                      have y5 := HT.out.kCell 4 rfl HE3.out HE4.out (j := 5) rfl
                      have y6 := HT.out.kCell 4 rfl HE3.out HE4.out (j := 6) rfl
                      have y7 := HT.out.kCell 4 rfl HE3.out HE4.out (j := 7) rfl
                      rw [Nat.add_zero] at y0
                      cases fj
                      · by_cases hzp : [z0, z1, z2, z3, z4, z5, z6, z7] = [p0, p1, p2, p3, p4, p5, p6, p7]
                        · injection hzp with q0 hzp
                          injection hzp with q1 hzp
                          injection hzp with q2 hzp
                          injection hzp with q3 hzp
                          injection hzp with q4 hzp
                          injection hzp with q5 hzp
                          injection hzp with q6 hzp
                          injection hzp with q7 hzp
                          subst q0 q1 q2 q3 q4 q5 q6 q7
                          clear hzp
                          have hG := knownGuard
                          have hEq : ∀ W, (Op.equalIn 10000 119 (.agg #[.int .i64 z0, .int .i64 z1, .int .i64 z2, .int .i64 z3, .int .i64 z4, .int .i64 z5, .int .i64 z6, .int .i64 z7]) (.agg #[.int .i64 z0, .int .i64 z1, .int .i64 z2, .int .i64 z3, .int .i64 z4, .int .i64 z5, .int .i64 z6, .int .i64 z7])).run Tryd.prog W = .ok true W := fun W => by rw [knownEq]; simp
                          have HN2 : Hid (_ = ((sj.set t [z0, z1, z2, z3, z4, z5, z6, z7], false) : Kn)) := Lib.hid (HN.out.trans (by simp))
                          go_wp2_with fail
                          refine wp_region_plan [.still [0, 1, 2, 3, 4, 5, 6, 7, 8], .loud 9 []] (by kernel_rfl) (by kernel_rfl) ?_
                          refine plan_still ?_
                          simp only [pick, List.getElem?_toArray, List.getElem?_cons_succ, List.getElem?_cons_zero]
                          repeat still_step
                          refine wpStill_nil ?_
                          refine plan_loud ?_
                          simp only [pick, List.getElem?_toArray, List.getElem?_cons_succ, List.getElem?_cons_zero]
                          go_wp2_with fail
                          refine ⟨trivial, ?_⟩
                          refine plan_end (NoPanic.normal ?_)
                          obtain ⟨T', K'⟩ := HT.out.drew'
                          replace HT := Lib.hid T'
                          replace Hr := Lib.hid (Hr.out.move (by decide) K')
                          replace Hw := Lib.hid (Hw.out.move (by decide) K')
                          clear T' K'
                          replace hz : w.heap.size ≤ wl26.drew.heap.size := hz
                          clear r_was q_was z_was y0 y1 y2 y3 y4 y5 y6 y7
                          generalize wl26.drew = W30 at *
                          obtain ⟨T', K'⟩ := HT.out.drop 0
                          simp only [List.eraseIdx_cons_zero] at T' K'
                          replace HT := Lib.hid T'
                          replace Hr := Lib.hid (Hr.out.move (by decide) K')
                          replace Hw := Lib.hid (Hw.out.move (by decide) K')
                          clear T' K'
                          clear HE3 HE4
                          go_wp2_with fail
                          go_roundw
                          case rel =>
                            refine ⟨j + 1, false, sj.set t [z0, z1, z2, z3, z4, z5, z6, z7], ?_, ?_, ?_, ?_, ?_, ?_, ?_, ?_⟩
                            · go_num
                            · rfl
                            · omega
                            · exact HN2.out
                            · with_reducible exact HT.out
                            · with_reducible exact Hr.out
                            · with_reducible exact Hw.out
                            · exact hz
                          case measure => simp [intOf]; omega
                        · have hG := knownGuard
                          have hEq : ∀ W, (Op.equalIn 10000 119 (.agg #[.int .i64 z0, .int .i64 z1, .int .i64 z2, .int .i64 z3, .int .i64 z4, .int .i64 z5, .int .i64 z6, .int .i64 z7]) (.agg #[.int .i64 p0, .int .i64 p1, .int .i64 p2, .int .i64 p3, .int .i64 p4, .int .i64 p5, .int .i64 p6, .int .i64 p7])).run Tryd.prog W = .ok false W := fun W => by rw [knownEq, decide_eq_false hzp]
                          have HN2 : Hid (_ = ((sj.set t [z0, z1, z2, z3, z4, z5, z6, z7], true) : Kn)) := Lib.hid (HN.out.trans (by simp only [Bool.false_or]; rw [decide_eq_true hzp]))
                          go_wp2_with fail
                          refine wp_region_plan [.still [0, 1, 2, 3, 4, 5, 6, 7, 8], .loud 9 []] (by kernel_rfl) (by kernel_rfl) ?_
                          refine plan_still ?_
                          simp only [pick, List.getElem?_toArray, List.getElem?_cons_succ, List.getElem?_cons_zero]
                          repeat still_step
                          refine wpStill_nil ?_
                          refine plan_loud ?_
                          simp only [pick, List.getElem?_toArray, List.getElem?_cons_succ, List.getElem?_cons_zero]
                          go_wp2_with fail
                          refine ⟨trivial, ?_⟩
                          refine plan_end (NoPanic.normal ?_)
                          obtain ⟨T', K'⟩ := HT.out.drew'
                          replace HT := Lib.hid T'
                          replace Hr := Lib.hid (Hr.out.move (by decide) K')
                          replace Hw := Lib.hid (Hw.out.move (by decide) K')
                          clear T' K'
                          replace hz : w.heap.size ≤ wl26.drew.heap.size := hz
                          clear r_was q_was z_was y0 y1 y2 y3 y4 y5 y6 y7
                          generalize wl26.drew = W31 at *
                          obtain ⟨T', K'⟩ := HT.out.drop 0
                          simp only [List.eraseIdx_cons_zero] at T' K'
                          replace HT := Lib.hid T'
                          replace Hr := Lib.hid (Hr.out.move (by decide) K')
                          replace Hw := Lib.hid (Hw.out.move (by decide) K')
                          clear T' K'
                          clear HE3 HE4
                          go_wp2_with fail
                          go_roundw
                          case rel =>
                            refine ⟨j + 1, true, sj.set t [z0, z1, z2, z3, z4, z5, z6, z7], ?_, ?_, ?_, ?_, ?_, ?_, ?_, ?_⟩
                            · go_num
                            · rfl
                            · omega
                            · exact HN2.out
                            · with_reducible exact HT.out
                            · with_reducible exact Hr.out
                            · with_reducible exact Hw.out
                            · exact hz
                          case measure => simp [intOf]; omega
                      · have HN2 : Hid (_ = ((sj.set t [z0, z1, z2, z3, z4, z5, z6, z7], true) : Kn)) := Lib.hid (HN.out.trans (by simp only [Bool.true_or]))
                        go_wp2_with fail
                        go_quiet (fail)
                        obtain ⟨T', K'⟩ := HT.out.drewN9 nq
                        replace HT := Lib.hid T'
                        replace Hr := Lib.hid (Hr.out.move (by decide) K')
                        replace Hw := Lib.hid (Hw.out.move (by decide) K')
                        clear T' K'
                        replace hz : w.heap.size ≤ ((wl26.drewN nq)).heap.size := hz
                        clear r_was q_was z_was y0 y1 y2 y3 y4 y5 y6 y7
                        generalize (wl26.drewN nq) = W29 at *
                        obtain ⟨T', K'⟩ := HT.out.drop 0
                        simp only [List.eraseIdx_cons_zero] at T' K'
                        replace HT := Lib.hid T'
                        replace Hr := Lib.hid (Hr.out.move (by decide) K')
                        replace Hw := Lib.hid (Hw.out.move (by decide) K')
                        clear T' K'
                        clear HE3 HE4
                        go_wp2_with fail
                        go_roundw
                        case rel =>
                          refine ⟨j + 1, true, sj.set t [z0, z1, z2, z3, z4, z5, z6, z7], ?_, ?_, ?_, ?_, ?_, ?_, ?_, ?_⟩
                          · go_num
                          · rfl
                          · omega
                          · exact HN2.out
                          · with_reducible exact HT.out
                          · with_reducible exact Hr.out
                          · with_reducible exact Hw.out
                          · exact hz
                        case measure => simp [intOf]; omega
              · have hjj : j = ws.length := by omega
                have hsj := Hsj.out
                rw [hjj, List.take_length, ← Hn.out] at hsj
                have HN := Lib.hid hsj
                have i4 : ¬ (j : Int) < (ws.length : Int) := by omega
                clear hsj hjj hj hjt
                go_wp2_with fail
                clear Hw
                obtain ⟨T', K'⟩ := HT.out.drop 0
                simp only [List.eraseIdx_cons_zero] at T' K'
                replace HT := Lib.hid T'
                replace Hr := Lib.hid (Hr.out.move (by decide) K')
                clear T' K'
                obtain ⟨T', K'⟩ := HT.out.drop 0
                simp only [List.eraseIdx_cons_zero] at T' K'
                replace HT := Lib.hid T'
                replace Hr := Lib.hid (Hr.out.move (by decide) K')
                clear T' K'
                go_roundw
                case rel =>
                  refine ⟨k + 1, fj, sj, ?_, ?_, ?_, ?_, ?_, ?_, ?_⟩
                  · go_num
                  · rfl
                  · omega
                  · exact HN.out
                  · with_reducible exact HT.out
                  · with_reducible exact Hr.out
                  · exact hz
                case measure => simp [intOf]; omega
        · have hkk : k = l.length := by omega
          have hst := Hst.out
          rw [hkk] at hst
          obtain ⟨hm, hFI⟩ := flowI_next HFI.out hst
          have i2 : ¬ (k : Int) < (l.length : Int) := by omega
          have HFN := Lib.hid hFI
          clear hFI hst hkk hk hlt
          go_wp2_with fail
          go_roundg (gk - 1)
          case rel =>
            refine ⟨fk, sk, ?_, ?_, ?_, ?_, ?_⟩
            · rfl
            · exact HFN.out
            · with_reducible exact HT.out
            · with_reducible exact Hr.out
            · exact hz
          case measure => exact hm
end Go.Proofs.YtabcjdalifhpdaaDoor
