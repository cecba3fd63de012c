/- The walks of treadwheelref.num, none and WorldNew. No condition beside what is read. -/
import Derived.Test.YtabcjdalifhpdaaDoorActNew
import Derived.Test.YtabcjdalifhpdaaDoorVerOf
namespace Go.Proofs.YtabcjdalifhpdaaDoor
open Go.RowKit

theorem numR_any (n : Int) (w : World) : Calls Tryd.prog 75 #[.int .i64 n] w fun e w' => e = .returned (.agg #[.int .i64 1, .int .i64 n]) ∧ Below w.heap.size w w' := by
  have T0 : St w.heap.size w ((w.alloc (.cells #[.int .i64 0, .int .i64 0] 61))) [.blk w.heap.size #[.int .i64 0, .int .i64 0] 61] := ((St.start w (Nat.le_refl _)).new' #[.int .i64 0, .int .i64 0] 61 (w.heap.size) (by simp)).1
  have HT := Lib.hid T0
  have hz : w.heap.size + 1 ≤ (w.alloc (.cells #[.int .i64 0, .int .i64 0] 61)).heap.size := by simp
  clear T0
  go_enter Tryd.func75, Tryd.ntmps75
  go_upto_region 1 with fail
  generalize (w.alloc (.cells #[.int .i64 0, .int .i64 0] 61)) = W1 at *
  obtain ⟨r_out, q_out, -⟩ := HT.out.rules
  have z_out : w.heap.size < W1.heap.size := (HT.out.in_ 0 rfl rfl).2
  go_wp2_with fail
  clear r_out q_out z_out
  obtain ⟨T', K'⟩ := HT.out.put2 0 (.int .i64 1) (.int .i64 n) rfl rfl
  simp only [List.set_cons_zero] at T' K'
  replace HT := Lib.hid T'
  clear T' K'
  replace hz : w.heap.size + 1 ≤ (((W1.setCell ⟨w.heap.size, 0, none⟩ (.int .i64 1)).setCell ⟨w.heap.size, 1, none⟩ (.int .i64 n))).heap.size := by simpa using hz
  generalize (W1.setCell ⟨w.heap.size, 0, none⟩ (.int .i64 1)).setCell ⟨w.heap.size, 1, none⟩ (.int .i64 n) = W2 at *
  obtain ⟨r_out, q_out, -⟩ := HT.out.rules
  have z_out : w.heap.size < W2.heap.size := (HT.out.in_ 0 rfl rfl).2
  refine bodyPost_ret (v := .agg #[.int .i64 1, .int .i64 n]) (by simp [results, Tryd.results75, go_sem, r_out]) rfl ?_
  exact ⟨rfl, HT.out.below⟩
set_option maxRecDepth 100000 in
theorem noneR_any (w : World) : Calls Tryd.prog 74 #[] w fun e w' => ∃ gr rc, e = .returned (.slice (some ⟨gr, 0, none⟩) 8 rc) ∧ w'.ownsRow w.heap.size 61 2 (.slice (some ⟨gr, 0, none⟩) 8 rc) 8 (cat (vcs (List.replicate 8 nilV))) ∧ Below w.heap.size w w' := by
  obtain ⟨iv, hiv, hv0, hv1, hv2⟩ := info_parts infoV
  have T0 : St w.heap.size w w [] := St.start w (Nat.le_refl _)
  have HT := Lib.hid T0
  have hz : w.heap.size ≤ w.heap.size := by simp
  clear T0
  go_enter Tryd.func74, Tryd.ntmps74
  go_wp2_with (go_loud (refine wpList_make_full _ rfl (.const (.int .i64 8)) (.const (.int .i64 8)) 52 rfl w.heap.size 61 iv _ 2 Tryd.underlying52 hiv hv0 hv1 _ _ _ _ 8 rfl rfl rfl rfl (by rw [hv2]; omega) (by unfold maxLen; omega) (Nat.le_refl _) ?next))
  case next =>
    intro W1 hown hgr
    replace hown := made_rep alike_v hown
    obtain ⟨T', K'⟩ := HT.out.ownRow ((Below.refl _ _).grown hgr (Nat.le_refl _) (fun k hk => by cases hk)) hown (m := w.heap.size) (by omega)
    replace HT := Lib.hid T'
    clear T' K'
    replace hz : w.heap.size ≤ W1.heap.size := Nat.le_trans hz hgr.size
    clear hown hgr
    go_wp2_with fail
    go_ret
    exact ⟨_, 8, rfl, HT.out.own 0 rfl, HT.out.below⟩
theorem in_isR (n low high : Int) (r : Bool) (hr : (decide (low ≤ n) && decide (n ≤ high)) = r) (w : World) : Calls Tryd.prog 72 #[.int .i64 n, .int .i64 low, .int .i64 high] w fun e w' => e = .returned (.bool r) ∧ w = w' := hr ▸ in_any n low high w
theorem newBadR_any (S : Nat → Prop) (A : Option Addr) (c : Nat) (ps : List (List Ins)) (most e : Int) (w : World) (hE : newE_ ps most = e) (he : e ≠ 0) (hr : RdSl pgE w S (.slice A ps.length c) ps) :
    Calls Tryd.prog 34 #[.agg #[.slice A ps.length c], .int .i64 most] w fun en w' => en = .returned (.tuple #[.agg #[.slice none 0 0, .slice none 0 0], .int .i64 e]) ∧ Below w.heap.size w w' := by
  have Hr := Lib.hid hr
  clear hr
  have T0 : St w.heap.size w (((w.alloc (.cells #[.slice A ps.length c] 26)).alloc (.cells #[.slice none 0 0, .slice none 0 0] 32))) [.blk (w.heap.size + 1) #[.slice none 0 0, .slice none 0 0] 32, .blk w.heap.size #[.slice A ps.length c] 26] := ((((St.start w (Nat.le_refl _)).new' #[.slice A ps.length c] 26 (w.heap.size) (by simp)).1).new' #[.slice none 0 0, .slice none 0 0] 32 (w.heap.size + 1) (by simp)).1
  have HT := Lib.hid T0
  have hz : w.heap.size + 1 + 1 ≤ ((w.alloc (.cells #[.slice A ps.length c] 26)).alloc (.cells #[.slice none 0 0, .slice none 0 0] 32)).heap.size := by simp
  clear T0
  replace Hr : Hid (RdSl pgE (((w.alloc (.cells #[.slice A ps.length c] 26)).alloc (.cells #[.slice none 0 0, .slice none 0 0] 32))) (Fr 0 [.blk (w.heap.size + 1) #[.slice none 0 0, .slice none 0 0] 32, .blk w.heap.size #[.slice A ps.length c] 26]) (.slice A ps.length c) ps) := Lib.hid (RdSl.pool (E := pgE) Hr.out (by show 0 < 1; omega) HT.out)
  unfold newE_ at hE
  have GV := Lib.hid (fun W S (h2 : RdSl pgE W S (.slice A ps.length c) ps) => verifiedOf_any S A c ps W h2)
  generalize verP ps = r at *
  obtain ⟨r0, r1, r2⟩ := r
  dsimp only at hE GV
  have HE := Lib.hid hE
  clear hE
  go_enter Tryd.func34, Tryd.ntmps34
  go_upto_region 1 with fail
  generalize ((w.alloc (.cells #[.slice A ps.length c] 26)).alloc (.cells #[.slice none 0 0, .slice none 0 0] 32)) = W1 at *
  obtain ⟨r_out, q_out, r_p, q_p, -⟩ := HT.out.rules
  have z_out : w.heap.size + 1 < W1.heap.size := (HT.out.in_ 0 rfl rfl).2
  have z_p : w.heap.size < W1.heap.size := (HT.out.in_ 1 rfl rfl).2
  go_wp2_with fail
  refine (GV.out _ _ Hr.out).mono ?_
  rintro en W2 ⟨rfl, hb⟩
  clear r_out q_out r_p q_p z_out z_p
  obtain ⟨T', K'⟩ := HT.out.call hb
  replace HT := Lib.hid T'
  replace Hr := Lib.hid (Hr.out.move (by show 0 < 1; omega) K')
  clear T' K'
  replace hz : w.heap.size + 1 + 1 ≤ W2.heap.size := Nat.le_trans hz hb.size
  clear hb
  obtain ⟨r_out, q_out, r_p, q_p, -⟩ := HT.out.rules
  have z_out : w.heap.size + 1 < W2.heap.size := (HT.out.in_ 0 rfl rfl).2
  have z_p : w.heap.size < W2.heap.size := (HT.out.in_ 1 rfl rfl).2
  clear GV
  clear Hr
  by_cases h2 : r2 = 0
  · subst h2
    have hE := HE.out
    rw [if_neg (by decide)] at hE
    have hm : most < 2 ∨ 60 < most := by
      by_cases hm : most < 2 ∨ 60 < most
      · exact hm
      · rw [if_neg hm] at hE; exact absurd hE.symm he
    rw [if_pos hm] at hE
    subst hE
    clear he
    go_wp2_with fail
    refine (in_isR _ _ _ false (by simp; omega) _).mono ?_
    rintro en W' ⟨rfl, rfl⟩
    clear hm
    go_wp2_with fail
    clear r_out q_out r_p q_p z_out z_p
    obtain ⟨T', K'⟩ := HT.out.put2 0 (.slice none 0 0) (.slice none 0 0) rfl rfl
    simp only [List.set_cons_zero] at T' K'
    replace HT := Lib.hid T'
    clear T' K'
    replace hz : w.heap.size + 1 + 1 ≤ (((W2.setCell ⟨w.heap.size + 1, 0, none⟩ (.slice none 0 0)).setCell ⟨w.heap.size + 1, 1, none⟩ (.slice none 0 0))).heap.size := by simpa using hz
    generalize (W2.setCell ⟨w.heap.size + 1, 0, none⟩ (.slice none 0 0)).setCell ⟨w.heap.size + 1, 1, none⟩ (.slice none 0 0) = W4 at *
    obtain ⟨r_out, q_out, r_p, q_p, -⟩ := HT.out.rules
    have z_out : w.heap.size + 1 < W4.heap.size := (HT.out.in_ 0 rfl rfl).2
    have z_p : w.heap.size < W4.heap.size := (HT.out.in_ 1 rfl rfl).2
    try simp only [Exit.inBlock, Exit.then]
    refine bodyPost_ret (v := .tuple #[.agg #[.slice none 0 0, .slice none 0 0], .int .i64 2]) (by simp [results, Tryd.results34, go_sem, r_out]) rfl ?_
    exact ⟨rfl, HT.out.below⟩
  · have e2 : (r2 != 0) = true := by simpa using h2
    have e3 : (r2 == 0) = false := by simpa using h2
    have hE := HE.out
    rw [if_pos h2] at hE
    subst hE
    clear h2
    go_wp2_with fail
    clear r_out q_out r_p q_p z_out z_p
    obtain ⟨T', K'⟩ := HT.out.put2 0 (.slice none 0 0) (.slice none 0 0) rfl rfl
    simp only [List.set_cons_zero] at T' K'
    replace HT := Lib.hid T'
    clear T' K'
    replace hz : w.heap.size + 1 + 1 ≤ (((W2.setCell ⟨w.heap.size + 1, 0, none⟩ (.slice none 0 0)).setCell ⟨w.heap.size + 1, 1, none⟩ (.slice none 0 0))).heap.size := by simpa using hz
    generalize (W2.setCell ⟨w.heap.size + 1, 0, none⟩ (.slice none 0 0)).setCell ⟨w.heap.size + 1, 1, none⟩ (.slice none 0 0) = W3 at *
    obtain ⟨r_out, q_out, r_p, q_p, -⟩ := HT.out.rules
    have z_out : w.heap.size + 1 < W3.heap.size := (HT.out.in_ 0 rfl rfl).2
    have z_p : w.heap.size < W3.heap.size := (HT.out.in_ 1 rfl rfl).2
    try simp only [Exit.inBlock, Exit.then]
    refine bodyPost_ret (v := .tuple #[.agg #[.slice none 0 0, .slice none 0 0], .int .i64 r2]) (by simp [results, Tryd.results34, go_sem, r_out]) rfl ?_
    exact ⟨rfl, HT.out.below⟩
set_option maxRecDepth 100000 in
set_option maxHeartbeats 8000000 in
theorem newOkR_any (S : Nat → Prop) (A : Option Addr) (c : Nat) (ps : List (List Ins)) (most : Int) (w : World) (hE : newE_ ps most = 0) (hr : RdSl pgE w S (.slice A ps.length c) ps) :
    Calls Tryd.prog 34 #[.agg #[.slice A ps.length c], .int .i64 most] w (NewD w most) := by
  unfold NewD
  have Hr := Lib.hid hr
  clear hr
  have T0 : St w.heap.size w (((w.alloc (.cells #[.slice A ps.length c] 26)).alloc (.cells #[.slice none 0 0, .slice none 0 0] 32))) [.blk (w.heap.size + 1) #[.slice none 0 0, .slice none 0 0] 32, .blk w.heap.size #[.slice A ps.length c] 26] := ((((St.start w (Nat.le_refl _)).new' #[.slice A ps.length c] 26 (w.heap.size) (by simp)).1).new' #[.slice none 0 0, .slice none 0 0] 32 (w.heap.size + 1) (by simp)).1
  have HT := Lib.hid T0
  have hz : w.heap.size + 1 + 1 ≤ ((w.alloc (.cells #[.slice A ps.length c] 26)).alloc (.cells #[.slice none 0 0, .slice none 0 0] 32)).heap.size := by simp
  clear T0
  replace Hr : Hid (RdSl pgE (((w.alloc (.cells #[.slice A ps.length c] 26)).alloc (.cells #[.slice none 0 0, .slice none 0 0] 32))) (Fr 0 [.blk (w.heap.size + 1) #[.slice none 0 0, .slice none 0 0] 32, .blk w.heap.size #[.slice A ps.length c] 26]) (.slice A ps.length c) ps) := Lib.hid (RdSl.pool (E := pgE) Hr.out (by show 0 < 1; omega) HT.out)
  unfold newE_ at hE
  have GV := Lib.hid (fun W S (h2 : RdSl pgE W S (.slice A ps.length c) ps) => verifiedOf_any S A c ps W h2)
  generalize verP ps = r at *
  obtain ⟨r0, r1, r2⟩ := r
  dsimp only at hE GV
  have HE := Lib.hid hE
  clear hE
  go_enter Tryd.func34, Tryd.ntmps34
  go_upto_region 1 with fail
  generalize ((w.alloc (.cells #[.slice A ps.length c] 26)).alloc (.cells #[.slice none 0 0, .slice none 0 0] 32)) = W1 at *
  obtain ⟨r_out, q_out, r_p, q_p, -⟩ := HT.out.rules
  have z_out : w.heap.size + 1 < W1.heap.size := (HT.out.in_ 0 rfl rfl).2
  have z_p : w.heap.size < W1.heap.size := (HT.out.in_ 1 rfl rfl).2
  go_wp2_with fail
  refine (GV.out _ _ Hr.out).mono ?_
  rintro en W2 ⟨rfl, hb⟩
  clear r_out q_out r_p q_p z_out z_p
  obtain ⟨T', K'⟩ := HT.out.call hb
  replace HT := Lib.hid T'
  replace Hr := Lib.hid (Hr.out.move (by show 0 < 1; omega) K')
  clear T' K'
  replace hz : w.heap.size + 1 + 1 ≤ W2.heap.size := Nat.le_trans hz hb.size
  clear hb
  obtain ⟨r_out, q_out, r_p, q_p, -⟩ := HT.out.rules
  have z_out : w.heap.size + 1 < W2.heap.size := (HT.out.in_ 0 rfl rfl).2
  have z_p : w.heap.size < W2.heap.size := (HT.out.in_ 1 rfl rfl).2
  clear GV
  clear Hr
  have hE := HE.out
  have h2 : r2 = 0 := by
    by_cases h2 : r2 = 0
    · exact h2
    · rw [if_pos h2] at hE; exact absurd hE h2
  subst h2
  rw [if_neg (by decide)] at hE
  have hm : ¬ (most < 2 ∨ 60 < most) := fun hm => by rw [if_pos hm] at hE; cases hE
  clear hE HE
  go_wp2_with fail
  refine (in_isR _ _ _ true (by simp; omega) _).mono ?_
  rintro en W' ⟨rfl, rfl⟩
  clear hm
  go_wp2_with fail
  refine (noneR_any _).mono ?_
  rintro en Wb ⟨gr, rc, rfl, hown, hb⟩
  clear r_out q_out r_p q_p z_out z_p
  obtain ⟨T', K'⟩ := HT.out.ownRow hb hown (m := w.heap.size) (by omega)
  replace HT := Lib.hid T'
  clear T' K'
  replace hz : w.heap.size + 1 + 1 ≤ Wb.heap.size := Nat.le_trans hz hb.size
  clear hb hown
  go_upto_region 7 with fail
  obtain ⟨T', K'⟩ := HT.out.new' #[.int .i64 0, .int .i64 (-1), .int .i64 0, .slice none 0 0, .slice (some ⟨gr, 0, none⟩) 8 rc, .int .i64 (-1), .slice none 0 0, .int .i64 0] 54 Wb.heap.size (by first | (simp; done) | rfl)
  replace HT := Lib.hid T'
  clear T' K'
  replace hz : w.heap.size + 1 + 1 ≤ ((Wb.alloc (.cells #[.int .i64 0, .int .i64 (-1), .int .i64 0, .slice none 0 0, .slice (some ⟨gr, 0, none⟩) 8 rc, .int .i64 (-1), .slice none 0 0, .int .i64 0] 54))).heap.size := Nat.le_trans hz (by simp)
  generalize (Wb.alloc (.cells #[.int .i64 0, .int .i64 (-1), .int .i64 0, .slice none 0 0, .slice (some ⟨gr, 0, none⟩) 8 rc, .int .i64 (-1), .slice none 0 0, .int .i64 0] 54)) = W3 at *
  obtain ⟨r_a, q_a, r_out, q_out, -⟩ := HT.out.rules
  have z_a : Wb.heap.size < W3.heap.size := (HT.out.in_ 0 rfl rfl).2
  have z_out : w.heap.size + 1 < W3.heap.size := (HT.out.in_ 2 rfl rfl).2
  go_wp2_with fail
  refine (numR_any 0 _).mono ?_
  rintro en W4 ⟨rfl, hb⟩
  clear r_a q_a r_out q_out z_a z_out
  obtain ⟨T', K'⟩ := HT.out.call hb
  replace HT := Lib.hid T'
  clear T' K'
  replace hz : w.heap.size + 1 + 1 ≤ W4.heap.size := Nat.le_trans hz hb.size
  clear hb
  obtain ⟨r_a, q_a, r_out, q_out, -⟩ := HT.out.rules
  have z_a : Wb.heap.size < W4.heap.size := (HT.out.in_ 0 rfl rfl).2
  have z_out : w.heap.size + 1 < W4.heap.size := (HT.out.in_ 2 rfl rfl).2
  go_wp2_with fail
  refine (numR_any 0 _).mono ?_
  rintro en W5 ⟨rfl, hb⟩
  clear r_a q_a r_out q_out z_a z_out
  obtain ⟨T', K'⟩ := HT.out.call hb
  replace HT := Lib.hid T'
  clear T' K'
  replace hz : w.heap.size + 1 + 1 ≤ W5.heap.size := Nat.le_trans hz hb.size
  clear hb
  obtain ⟨r_a, q_a, r_out, q_out, -⟩ := HT.out.rules
  have z_a : Wb.heap.size < W5.heap.size := (HT.out.in_ 0 rfl rfl).2
  have z_out : w.heap.size + 1 < W5.heap.size := (HT.out.in_ 2 rfl rfl).2
  go_upto_region 8 with fail
  clear r_a q_a r_out q_out z_a z_out
  obtain ⟨T', K'⟩ := HT.out.put 0 2 (.int .i64 most) rfl
  simp only [List.set_cons_succ, List.set_cons_zero, List.setIfInBounds_toArray] at T' K'
  replace HT := Lib.hid T'
  clear T' K'
  replace hz : w.heap.size + 1 + 1 ≤ ((W5.setCell ⟨Wb.heap.size, 2, none⟩ (.int .i64 most))).heap.size := by simpa using hz
  obtain ⟨T', K'⟩ := HT.out.put 0 3 (.slice (some ⟨W5.heap.size + 1, 0, none⟩) 1 1) rfl
  simp only [List.set_cons_succ, List.set_cons_zero, List.setIfInBounds_toArray] at T' K'
  replace HT := Lib.hid T'
  clear T' K'
  replace hz : w.heap.size + 1 + 1 ≤ (((W5.setCell ⟨Wb.heap.size, 2, none⟩ (.int .i64 most)).setCell ⟨Wb.heap.size, 3, none⟩ (.slice (some ⟨W5.heap.size + 1, 0, none⟩) 1 1))).heap.size := by simpa using hz
  have Hfr := Lib.hid HT.out
  obtain ⟨T', K'⟩ := HT.out.new' #[.int .i64 1, .int .i64 0, .int .i64 1, .int .i64 0] 61 W5.heap.size (by first | (simp; done) | rfl)
  replace HT := Lib.hid T'
  clear T' K'
  replace hz : w.heap.size + 1 + 1 ≤ ((((W5.setCell ⟨Wb.heap.size, 2, none⟩ (.int .i64 most)).setCell ⟨Wb.heap.size, 3, none⟩ (.slice (some ⟨W5.heap.size + 1, 0, none⟩) 1 1)).alloc (.cells #[.int .i64 1, .int .i64 0, .int .i64 1, .int .i64 0] 61))).heap.size := Nat.le_trans hz (by simp)
  obtain ⟨T', K'⟩ := HT.out.new' #[.slice (some ⟨W5.heap.size, 0, none⟩) 2 2, .bool false] 124 (W5.heap.size + 1) (by first | (simp; done) | rfl)
  replace HT := Lib.hid T'
  clear T' K'
  replace hz : w.heap.size + 1 + 1 ≤ (((((W5.setCell ⟨Wb.heap.size, 2, none⟩ (.int .i64 most)).setCell ⟨Wb.heap.size, 3, none⟩ (.slice (some ⟨W5.heap.size + 1, 0, none⟩) 1 1)).alloc (.cells #[.int .i64 1, .int .i64 0, .int .i64 1, .int .i64 0] 61)).alloc (.cells #[.slice (some ⟨W5.heap.size, 0, none⟩) 2 2, .bool false] 124))).heap.size := Nat.le_trans hz (by simp)
  have hs5 : ((W5.setCell ⟨Wb.heap.size, 2, none⟩ (.int .i64 most)).setCell ⟨Wb.heap.size, 3, none⟩ (.slice (some ⟨W5.heap.size + 1, 0, none⟩) 1 1)).heap.size = W5.heap.size := by simp
  generalize ((((W5.setCell ⟨Wb.heap.size, 2, none⟩ (.int .i64 most)).setCell ⟨Wb.heap.size, 3, none⟩ (.slice (some ⟨W5.heap.size + 1, 0, none⟩) 1 1)).alloc (.cells #[.int .i64 1, .int .i64 0, .int .i64 1, .int .i64 0] 61)).alloc (.cells #[.slice (some ⟨W5.heap.size, 0, none⟩) 2 2, .bool false] 124)) = Wg at *
  have q1 : RdSl vE Wg (fun b => ((W5.setCell ⟨Wb.heap.size, 2, none⟩ (.int .i64 most)).setCell ⟨Wb.heap.size, 3, none⟩ (.slice (some ⟨W5.heap.size + 1, 0, none⟩) 1 1)).heap.size ≤ b) (.slice (some ⟨W5.heap.size, 0, none⟩) 2 2) [⟨1, 0⟩, ⟨1, 0⟩] := rd_lit (E := vE) (css := vcs [⟨1, 0⟩, ⟨1, 0⟩]) (HT.out.heap 1 rfl) (by rw [hs5]; exact Nat.le_refl _) (vcs_held _) rfl (by decide) (by decide) 2 rfl
  have q2 : RdSl obE Wg (fun b => ((W5.setCell ⟨Wb.heap.size, 2, none⟩ (.int .i64 most)).setCell ⟨Wb.heap.size, 3, none⟩ (.slice (some ⟨W5.heap.size + 1, 0, none⟩) 1 1)).heap.size ≤ b) (.slice (some ⟨W5.heap.size + 1, 0, none⟩) 1 1) [⟨[⟨1, 0⟩, ⟨1, 0⟩], false⟩] := rd_lit (E := obE) (css := [[.slice (some ⟨W5.heap.size, 0, none⟩) 2 2, .bool false]]) (HT.out.heap 0 rfl) (by rw [hs5]; omega) (Held.cons rfl ⟨_, rfl, q1⟩ Held.nil) rfl (by decide) (by decide) 1 rfl
  obtain ⟨T', K'⟩ := HT.out.drop 0
  simp only [List.eraseIdx_cons_zero] at T' K'
  replace HT := Lib.hid T'
  clear T' K'
  obtain ⟨T', K'⟩ := HT.out.drop 0
  simp only [List.eraseIdx_cons_zero] at T' K'
  replace HT := Lib.hid T'
  clear T' K'
  have Hq := Lib.hid (q2.fresh (by decide) Hfr.out Hfr.out.base)
  clear q1 q2 Hfr hs5
  obtain ⟨r_a, q_a, r_out, q_out, -⟩ := HT.out.rules
  have z_a : Wb.heap.size < Wg.heap.size := (HT.out.in_ 0 rfl rfl).2
  have z_out : w.heap.size + 1 < Wg.heap.size := (HT.out.in_ 2 rfl rfl).2
  have hgr := HT.out.own 1 rfl
  obtain ⟨k0, k1⟩ := row_first hgr rfl
  have q_r := fun i => HT.out.rowFree 1 rfl i
  have z_gr : gr < Wg.heap.size := (HT.out.in_ 1 rfl rfl).2
  have hne1 : gr ≠ Wb.heap.size := fun e => HT.out.ne 0 1 (by decide) rfl rfl (b := Wb.heap.size) (c := gr) rfl rfl e.symm
  clear hgr
  go_upto_region 9 with fail
  clear r_a q_a r_out q_out z_a z_out k0 k1 q_r z_gr
  obtain ⟨T', K'⟩ := HT.out.rowFirst 1 ⟨2, 0⟩ rfl
  simp only [List.set_cons_succ, List.set_cons_zero] at T' K'
  replace HT := Lib.hid T'
  replace Hq := Lib.hid (Hq.out.move (by decide) K')
  clear T' K'
  replace hz : w.heap.size + 1 + 1 ≤ (((Wg.setCell ⟨gr, 0, none⟩ (.int .i64 2)).setCell ⟨gr, 1, none⟩ (.int .i64 0))).heap.size := by simpa using hz
  generalize (Wg.setCell ⟨gr, 0, none⟩ (.int .i64 2)).setCell ⟨gr, 1, none⟩ (.int .i64 0) = Wq at *
  obtain ⟨r_a, q_a, r_out, q_out, -⟩ := HT.out.rules
  have z_a : Wb.heap.size < Wq.heap.size := (HT.out.in_ 0 rfl rfl).2
  have z_out : w.heap.size + 1 < Wq.heap.size := (HT.out.in_ 2 rfl rfl).2
  go_wp2_with fail
  obtain ⟨T', K'⟩ := HT.out.drop 0
  simp only [List.eraseIdx_cons_zero] at T' K'
  replace HT := Lib.hid T'
  replace Hq := Lib.hid (Hq.out.move (by decide) K')
  clear T' K'
  clear r_a q_a r_out q_out z_a z_out
  obtain ⟨T', K'⟩ := HT.out.put2 1 (.slice (some ⟨Wq.heap.size, 0, none⟩) 1 1) (.slice none 0 0) rfl rfl
  simp only [List.set_cons_succ, List.set_cons_zero] at T' K'
  replace HT := Lib.hid T'
  replace Hq := Lib.hid (Hq.out.move (by decide) K')
  clear T' K'
  replace hz : w.heap.size + 1 + 1 ≤ (((Wq.setCell ⟨w.heap.size + 1, 0, none⟩ (.slice (some ⟨Wq.heap.size, 0, none⟩) 1 1)).setCell ⟨w.heap.size + 1, 1, none⟩ (.slice none 0 0))).heap.size := by simpa using hz
  obtain ⟨T', K'⟩ := HT.out.new' #[.int .i64 0, .int .i64 (-1), .int .i64 most, .slice (some ⟨W5.heap.size + 1, 0, none⟩) 1 1, .slice (some ⟨gr, 0, none⟩) 8 rc, .int .i64 (-1), .slice none 0 0, .int .i64 0] 54 Wq.heap.size (by first | (simp; done) | rfl)
  replace HT := Lib.hid T'
  replace Hq := Lib.hid (Hq.out.move (by decide) K')
  clear T' K'
  replace hz : w.heap.size + 1 + 1 ≤ ((((Wq.setCell ⟨w.heap.size + 1, 0, none⟩ (.slice (some ⟨Wq.heap.size, 0, none⟩) 1 1)).setCell ⟨w.heap.size + 1, 1, none⟩ (.slice none 0 0)).alloc (.cells #[.int .i64 0, .int .i64 (-1), .int .i64 most, .slice (some ⟨W5.heap.size + 1, 0, none⟩) 1 1, .slice (some ⟨gr, 0, none⟩) 8 rc, .int .i64 (-1), .slice none 0 0, .int .i64 0] 54))).heap.size := Nat.le_trans hz (by simp)
  generalize (((Wq.setCell ⟨w.heap.size + 1, 0, none⟩ (.slice (some ⟨Wq.heap.size, 0, none⟩) 1 1)).setCell ⟨w.heap.size + 1, 1, none⟩ (.slice none 0 0)).alloc (.cells #[.int .i64 0, .int .i64 (-1), .int .i64 most, .slice (some ⟨W5.heap.size + 1, 0, none⟩) 1 1, .slice (some ⟨gr, 0, none⟩) 8 rc, .int .i64 (-1), .slice none 0 0, .int .i64 0] 54)) = W6 at *
  obtain ⟨r_A, q_A, r_out, q_out, -⟩ := HT.out.rules
  have z_A : Wq.heap.size < W6.heap.size := (HT.out.in_ 0 rfl rfl).2
  have z_out : w.heap.size + 1 < W6.heap.size := (HT.out.in_ 2 rfl rfl).2
  have RO := Lib.hid r_out
  clear r_A q_A r_out q_out z_A z_out
  obtain ⟨T', K'⟩ := HT.out.drop 2
  simp only [List.eraseIdx_cons_succ, List.eraseIdx_cons_zero] at T' K'
  replace HT := Lib.hid T'
  replace Hq := Lib.hid (Hq.out.move (by decide) K')
  clear T' K'
  obtain ⟨T', K'⟩ := HT.out.drop 2
  simp only [List.eraseIdx_cons_succ, List.eraseIdx_cons_zero] at T' K'
  replace HT := Lib.hid T'
  replace Hq := Lib.hid (Hq.out.move (by decide) K')
  clear T' K'
  obtain ⟨T', K'⟩ := St.newWorld (nk := 0) (a := begunA 0 (-1) ⟨most, [⟨[⟨1, 0⟩, ⟨1, 0⟩], false⟩]⟩ ⟨2, 0⟩) (L := (⟨0, none, 0, Wq.heap.size, 1, none, 0, fun _ => some ⟨W5.heap.size + 1, 0, none⟩, fun _ => 1, fun _ => gr, fun _ => rc, fun _ => none, fun _ => 0⟩ : Lay)) HT.out rfl rfl rfl rfl rfl rfl rfl rfl rfl rfl rfl
  replace HT := Lib.hid T'
  replace Hq := Lib.hid (Hq.out.move (by decide) K')
  clear T' K'
  try simp only [Exit.inBlock, Exit.then]
  refine bodyPost_ret (v := .tuple #[.agg #[.slice (some ⟨Wq.heap.size, 0, none⟩) 1 1, .slice none 0 0], .int .i64 0]) (by simp [results, Tryd.results34, go_sem, RO.out]) rfl ?_
  exact ⟨(⟨0, none, 0, Wq.heap.size, 1, none, 0, fun _ => some ⟨W5.heap.size + 1, 0, none⟩, fun _ => 1, fun _ => gr, fun _ => rc, fun _ => none, fun _ => 0⟩ : Lay), rfl, rfl, rfl, HT.out, fun i a ha => newW_objs ha Hq.out⟩
end Go.Proofs.YtabcjdalifhpdaaDoor
