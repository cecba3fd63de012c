/- The walks of actor.number and actor.begun. No condition. The walk of actor.New. Condition: the table of operators is as the program's text lays it. -/
import Derived.Test.YtabcjdalifhpdaaDoorStage
import Derived.Test.YtabcjdalifhpdaaDoorStD
import Derived.Test.YtabcjdalifhpdaaDoorVerCheck
import Derived.Test.YtabcjdalifhpdaaDoorSame
import Derived.Test.YtabcjdalifhpdaaDoorSet
namespace Go.Proofs.YtabcjdalifhpdaaDoor
section
open Go.RowKit
theorem numberA_any (n : Int) (w : World) : Calls Tryd.prog 56 #[.int .i64 n] w fun e w' => e = .returned (.agg #[.int .i64 1, .int .i64 n]) ∧ Below w.heap.size w w' := by
  have T0 : St w.heap.size w ((w.alloc (.cells #[.int .i64 0, .int .i64 0] 61))) [.blk w.heap.size #[.int .i64 0, .int .i64 0] 61] := ((St.start w (Nat.le_refl _)).new' #[.int .i64 0, .int .i64 0] 61 (w.heap.size) (by simp)).1
  have HT := Lib.hid T0
  have hz : w.heap.size + 1 ≤ (w.alloc (.cells #[.int .i64 0, .int .i64 0] 61)).heap.size := by simp
  clear T0
  go_enter Tryd.func56, Tryd.ntmps56
  go_upto_region 1 with fail
  generalize (w.alloc (.cells #[.int .i64 0, .int .i64 0] 61)) = W1 at *
  obtain ⟨r_out, q_out, -⟩ := HT.out.rules
  have z_out : w.heap.size < W1.heap.size := (HT.out.in_ 0 rfl rfl).2
  go_wp2_with fail
  clear r_out q_out z_out
  obtain ⟨T', K'⟩ := HT.out.put2 0 (.int .i64 1) (.int .i64 n) rfl rfl
  simp only [List.set_cons_zero] at T' K'
  replace HT := Lib.hid T'
  clear T' K'
  replace hz : w.heap.size + 1 ≤ (((W1.setCell ⟨w.heap.size, 0, none⟩ (.int .i64 1)).setCell ⟨w.heap.size, 1, none⟩ (.int .i64 n))).heap.size := by simpa using hz
  generalize (W1.setCell ⟨w.heap.size, 0, none⟩ (.int .i64 1)).setCell ⟨w.heap.size, 1, none⟩ (.int .i64 n) = W2 at *
  obtain ⟨r_out, q_out, -⟩ := HT.out.rules
  have z_out : w.heap.size < W2.heap.size := (HT.out.in_ 0 rfl rfl).2
  refine bodyPost_ret (v := .agg #[.int .i64 1, .int .i64 n]) (by simp [results, Tryd.results56, go_sem, r_out]) rfl ?_
  exact ⟨rfl, HT.out.below⟩
theorem row_first {w : World} {base : Nat} {e : TypeId} {g n c : Nat} {xs : List Value} (h : w.ownsRow base e 2 (.slice (some ⟨g, 0, none⟩) n c) n xs) (hx : xs = List.replicate (8 * 2) (.int .i64 0)) :
    w.cell? ⟨g, 0, none⟩ = some (.int .i64 0) ∧ w.cell? ⟨g, 1, none⟩ = some (.int .i64 0) := by
  subst hx
  have h0 := h.cells (g := g) rfl 0 (.int .i64 0) rfl
  have h1 := h.cells (g := g) rfl 1 (.int .i64 0) rfl
  rw [addr_add] at h0 h1
  exact ⟨by simpa using h0, by simpa using h1⟩
theorem St.rowFirst {B : Nat} {w0 w : World} {R : List Res} (h : St B w0 w R) (i : Nat) (v : V) {base : Nat} {e : TypeId} {g c : Nat} (hi : R[i]? = some (.row base e 2 (.slice (some ⟨g, 0, none⟩) 8 c) 8 (List.replicate (8 * 2) (.int .i64 0)))) :
    St B w0 ((w.setCell ⟨g, 0, none⟩ (.int .i64 v.k)).setCell ⟨g, 1, none⟩ (.int .i64 v.n)) (R.set i (.row base e 2 (.slice (some ⟨g, 0, none⟩) 8 c) 8 (cat (vcs (v :: List.replicate 7 nilV))))) ∧
      Keeps w R ((w.setCell ⟨g, 0, none⟩ (.int .i64 v.k)).setCell ⟨g, 1, none⟩ (.int .i64 v.n)) (R.set i (.row base e 2 (.slice (some ⟨g, 0, none⟩) 8 c) 8 (cat (vcs (v :: List.replicate 7 nilV))))) :=
  h.rowPut2 i 0 (.int .i64 v.k) (.int .i64 v.n) (css := vcs (List.replicate 8 nilV)) hi (fun cs hc => by obtain ⟨x, _, rfl⟩ := List.mem_map.1 hc; rfl) (by decide)
set_option maxRecDepth 100000 in
set_option maxHeartbeats 8000000 in
theorem begun_any (kind par m : Int) (A : Option Addr) (n c : Nat) (v : V) (w : World) :
    Calls Tryd.prog 57 #[.int .i64 kind, .int .i64 par, .agg #[.int .i64 m, .slice A n c], .agg #[.int .i64 v.k, .int .i64 v.n]] w fun e w' => ∃ gr rc, e = .returned (.agg #[.int .i64 kind, .int .i64 par, .int .i64 m, .slice A n c, .slice (some ⟨gr, 0, none⟩) 8 rc, .int .i64 (-1), .slice none 0 0, .int .i64 0]) ∧
      w'.ownsRow w.heap.size 61 2 (.slice (some ⟨gr, 0, none⟩) 8 rc) 8 (cat (vcs (v :: List.replicate 7 nilV))) ∧ Below w.heap.size w w' := by
  obtain ⟨iv, hiv, hv0, hv1, hv2⟩ := info_parts infoV
  have T0 : St w.heap.size w ((((w.alloc (.cells #[.int .i64 m, .slice A n c] 51)).alloc (.cells #[.int .i64 v.k, .int .i64 v.n] 61)).alloc (.cells #[.int .i64 0, .int .i64 0, .int .i64 0, .slice none 0 0, .slice none 0 0, .int .i64 0, .slice none 0 0, .int .i64 0] 54))) [.blk (w.heap.size + 1 + 1) #[.int .i64 0, .int .i64 0, .int .i64 0, .slice none 0 0, .slice none 0 0, .int .i64 0, .slice none 0 0, .int .i64 0] 54, .blk (w.heap.size + 1) #[.int .i64 v.k, .int .i64 v.n] 61, .blk w.heap.size #[.int .i64 m, .slice A n c] 51] := ((((((St.start w (Nat.le_refl _)).new' #[.int .i64 m, .slice A n c] 51 (w.heap.size) (by simp)).1).new' #[.int .i64 v.k, .int .i64 v.n] 61 (w.heap.size + 1) (by simp)).1).new' #[.int .i64 0, .int .i64 0, .int .i64 0, .slice none 0 0, .slice none 0 0, .int .i64 0, .slice none 0 0, .int .i64 0] 54 (w.heap.size + 1 + 1) (by simp)).1
  have HT := Lib.hid T0
  have hz : w.heap.size + 1 + 1 + 1 ≤ (((w.alloc (.cells #[.int .i64 m, .slice A n c] 51)).alloc (.cells #[.int .i64 v.k, .int .i64 v.n] 61)).alloc (.cells #[.int .i64 0, .int .i64 0, .int .i64 0, .slice none 0 0, .slice none 0 0, .int .i64 0, .slice none 0 0, .int .i64 0] 54)).heap.size := by simp
  clear T0
  go_enter Tryd.func57, Tryd.ntmps57
  go_upto_region 1 with fail
  generalize (((w.alloc (.cells #[.int .i64 m, .slice A n c] 51)).alloc (.cells #[.int .i64 v.k, .int .i64 v.n] 61)).alloc (.cells #[.int .i64 0, .int .i64 0, .int .i64 0, .slice none 0 0, .slice none 0 0, .int .i64 0, .slice none 0 0, .int .i64 0] 54)) = W1 at *
  obtain ⟨r_out, q_out, r_v, q_v, r_h, q_h, -⟩ := HT.out.rules
  have z_out : w.heap.size + 1 + 1 < W1.heap.size := (HT.out.in_ 0 rfl rfl).2
  have z_v : w.heap.size + 1 < W1.heap.size := (HT.out.in_ 1 rfl rfl).2
  have z_h : w.heap.size < W1.heap.size := (HT.out.in_ 2 rfl rfl).2
  refine wp_region_tree (.still [0, 1, 2] (.alt (.loud 3 [0, 1, 2] (.still [4] (.loud 5 [0, 1, 2, 4] (.loud 6 [] .done)))) (.loud 5 [0, 1, 2] (.loud 3 [0, 1, 2] (.still [4] (.loud 6 [] .done)))))) (fun a9 b9 w9 => ∃ (ga gr : Nat), St w.heap.size w w9 [.blk ga #[.int .i64 kind, .int .i64 par, .int .i64 m, .slice A n c, .slice (some ⟨gr, 0, none⟩) 8 8, .int .i64 (-1), .slice none 0 0, .int .i64 0] 54, .row w.heap.size 61 2 (.slice (some ⟨gr, 0, none⟩) 8 8) 8 (List.replicate (8 * 2) (.int .i64 0)), .blk (w.heap.size + 1 + 1) #[.int .i64 0, .int .i64 0, .int .i64 0, .slice none 0 0, .slice none 0 0, .int .i64 0, .slice none 0 0, .int .i64 0] 54, .blk (w.heap.size + 1) #[.int .i64 v.k, .int .i64 v.n] 61, .blk w.heap.size #[.int .i64 m, .slice A n c] 51] ∧ w.heap.size + 1 + 1 + 1 ≤ w9.heap.size ∧ ∃ (g10 : Value) (g11 : Value) (g12 : Value) (g13 : Value) (g14 : Value), b9 = ((((((a9.put (some 10) g10).put (some 11) g11).put (some 12) g12).put (some 13) g13).put (some 14) g14).put (some 9) (.pointer (some ⟨ga, 0, none⟩)))) (by kernel_rfl) (by kernel_rfl) ?_ ?_
  focus
    obtain ⟨T', K'⟩ := HT.out.drew'
    replace HT := Lib.hid T'
    clear T' K'
    replace hz : w.heap.size + 1 + 1 + 1 ≤ W1.drew.heap.size := hz
    clear r_out q_out r_v q_v r_h q_h z_out z_v z_h
    generalize W1.drew = W3 at *
    obtain ⟨r_out, q_out, r_v, q_v, r_h, q_h, -⟩ := HT.out.rules
    have z_out : w.heap.size + 1 + 1 < W3.heap.size := (HT.out.in_ 0 rfl rfl).2
    have z_v : w.heap.size + 1 < W3.heap.size := (HT.out.in_ 1 rfl rfl).2
    have z_h : w.heap.size < W3.heap.size := (HT.out.in_ 2 rfl rfl).2
    clear r_out q_out r_v q_v r_h q_h z_out z_v z_h
    obtain ⟨-, -, -, -, r_h, q_h, -⟩ := HT.out.rules
    have z_h : w.heap.size < W3.heap.size := (HT.out.in_ 2 rfl rfl).2
    refine tr_still ?_
    simp only [pick, List.getElem?_toArray, List.getElem?_cons_succ, List.getElem?_cons_zero]
    repeat still_step
    refine wpStill_nil ?_
    refine tr_alt ?_ ?_
    · refine tr_loud ?_
      simp only [pick, List.getElem?_toArray, List.getElem?_cons_succ, List.getElem?_cons_zero]
      refine wpList_make_full _ rfl (.const (.int .i64 8)) (.const (.int .i64 8)) 52 rfl W3.heap.size 61 iv _ 2 Tryd.underlying52 hiv hv0 hv1 _ _ _ _ 8 rfl rfl rfl rfl (by rw [hv2]; omega) (by unfold maxLen; omega) (Nat.le_refl _) ?next
      case next =>
        intro W4 hown hgr
        replace hown := made_rep alike_v hown
        clear r_h q_h z_h
        obtain ⟨T', K'⟩ := HT.out.ownRow ((Below.refl _ _).grown hgr (Nat.le_refl _) (fun k hk => by cases hk)) hown (m := w.heap.size) (by omega)
        replace HT := Lib.hid T'
        clear T' K'
        replace hz : w.heap.size + 1 + 1 + 1 ≤ W4.heap.size := Nat.le_trans hz hgr.size
        clear hown hgr
        obtain ⟨-, -, -, -, r_h, q_h, -⟩ := HT.out.rules
        have z_h : w.heap.size < W4.heap.size := (HT.out.in_ 3 rfl rfl).2
        go_wp2_with fail
        refine ⟨?_, ?_⟩
        · simp only [Again, pick, List.getElem?_toArray, List.getElem?_cons_succ, List.getElem?_cons_zero]
          refine ⟨?_, ?_, ?_, trivial⟩
          all_goals (still_step; exact wpStill_nil rfl)
        refine tr_still ?_
        simp only [pick, List.getElem?_toArray, List.getElem?_cons_succ, List.getElem?_cons_zero]
        repeat still_step
        refine wpStill_nil ?_
        refine tr_loud ?_
        simp only [pick, List.getElem?_toArray, List.getElem?_cons_succ, List.getElem?_cons_zero]
        go_wp2_with fail
        obtain ⟨T', K'⟩ := HT.out.new' #[.int .i64 0, .int .i64 0, .int .i64 0, .slice none 0 0, .slice none 0 0, .int .i64 0, .slice none 0 0, .int .i64 0] 54 W4.heap.size (by first | (simp; done) | rfl)
        replace HT := Lib.hid T'
        clear T' K'
        replace hz : w.heap.size + 1 + 1 + 1 ≤ ((W4.alloc (.cells #[.int .i64 0, .int .i64 0, .int .i64 0, .slice none 0 0, .slice none 0 0, .int .i64 0, .slice none 0 0, .int .i64 0] 54))).heap.size := Nat.le_trans hz (by simp)
        clear r_h q_h z_h
        generalize (W4.alloc (.cells #[.int .i64 0, .int .i64 0, .int .i64 0, .slice none 0 0, .slice none 0 0, .int .i64 0, .slice none 0 0, .int .i64 0] 54)) = W5 at *
        obtain ⟨r_a, q_a, -, -, -, -, r_h, q_h, -⟩ := HT.out.rules
        have z_a : W4.heap.size < W5.heap.size := (HT.out.in_ 0 rfl rfl).2
        have z_h : w.heap.size < W5.heap.size := (HT.out.in_ 4 rfl rfl).2
        refine ⟨?_, ?_⟩
        · simp only [Again, pick, List.getElem?_toArray, List.getElem?_cons_succ, List.getElem?_cons_zero]
          refine ⟨?_, ?_, ?_, ?_, trivial⟩
          all_goals (still_step; exact wpStill_nil rfl)
        refine tr_loud ?_
        simp only [pick, List.getElem?_toArray, List.getElem?_cons_succ, List.getElem?_cons_zero]
        go_wp2_with fail
        clear r_a q_a r_h q_h z_a z_h
        obtain ⟨T', K'⟩ := HT.out.put8 0 (.int .i64 kind) (.int .i64 par) (.int .i64 m) (.slice A n c) (.slice (some ⟨W3.heap.size, 0, none⟩) 8 8) (.int .i64 (-1)) (.slice none 0 0) (.int .i64 0) rfl rfl
        simp only [List.set_cons_zero] at T' K'
        replace HT := Lib.hid T'
        clear T' K'
        replace hz : w.heap.size + 1 + 1 + 1 ≤ (((((((((W5.setCell ⟨W4.heap.size, 0, none⟩ (.int .i64 kind)).setCell ⟨W4.heap.size, 1, none⟩ (.int .i64 par)).setCell ⟨W4.heap.size, 2, none⟩ (.int .i64 m)).setCell ⟨W4.heap.size, 3, none⟩ (.slice A n c)).setCell ⟨W4.heap.size, 4, none⟩ (.slice (some ⟨W3.heap.size, 0, none⟩) 8 8)).setCell ⟨W4.heap.size, 5, none⟩ (.int .i64 (-1))).setCell ⟨W4.heap.size, 6, none⟩ (.slice none 0 0)).setCell ⟨W4.heap.size, 7, none⟩ (.int .i64 0))).heap.size := by simpa using hz
        generalize ((((((((W5.setCell ⟨W4.heap.size, 0, none⟩ (.int .i64 kind)).setCell ⟨W4.heap.size, 1, none⟩ (.int .i64 par)).setCell ⟨W4.heap.size, 2, none⟩ (.int .i64 m)).setCell ⟨W4.heap.size, 3, none⟩ (.slice A n c)).setCell ⟨W4.heap.size, 4, none⟩ (.slice (some ⟨W3.heap.size, 0, none⟩) 8 8)).setCell ⟨W4.heap.size, 5, none⟩ (.int .i64 (-1))).setCell ⟨W4.heap.size, 6, none⟩ (.slice none 0 0)).setCell ⟨W4.heap.size, 7, none⟩ (.int .i64 0)) = W6 at *
        obtain ⟨-, -, -, -, -, -, r_h, q_h, -⟩ := HT.out.rules
        have z_h : w.heap.size < W6.heap.size := (HT.out.in_ 4 rfl rfl).2
        refine ⟨trivial, ?_⟩
        have hP9 := HT.out.perm (R' := [.blk W4.heap.size #[.int .i64 kind, .int .i64 par, .int .i64 m, .slice A n c, .slice (some ⟨W3.heap.size, 0, none⟩) 8 8, .int .i64 (-1), .slice none 0 0, .int .i64 0] 54, .row w.heap.size 61 2 (.slice (some ⟨W3.heap.size, 0, none⟩) 8 8) 8 (List.replicate (8 * 2) (.int .i64 0)), .blk (w.heap.size + 1 + 1) #[.int .i64 0, .int .i64 0, .int .i64 0, .slice none 0 0, .slice none 0 0, .int .i64 0, .slice none 0 0, .int .i64 0] 54, .blk (w.heap.size + 1) #[.int .i64 v.k, .int .i64 v.n] 61, .blk w.heap.size #[.int .i64 m, .slice A n c] 51]) (.refl _)
        refine tr_done ?_
        refine ⟨W4.heap.size, W3.heap.size, hP9.1, hz, ?_⟩
        repeat (apply Exists.intro)
        try simp only [Act.put, List.setIfInBounds_toArray, List.set_cons_succ, List.set_cons_zero]
        rfl
    · refine tr_loud ?_
      simp only [pick, List.getElem?_toArray, List.getElem?_cons_succ, List.getElem?_cons_zero]
      go_wp2_with fail
      obtain ⟨T', K'⟩ := HT.out.new' #[.int .i64 0, .int .i64 0, .int .i64 0, .slice none 0 0, .slice none 0 0, .int .i64 0, .slice none 0 0, .int .i64 0] 54 W3.heap.size (by first | (simp; done) | rfl)
      replace HT := Lib.hid T'
      clear T' K'
      replace hz : w.heap.size + 1 + 1 + 1 ≤ ((W3.alloc (.cells #[.int .i64 0, .int .i64 0, .int .i64 0, .slice none 0 0, .slice none 0 0, .int .i64 0, .slice none 0 0, .int .i64 0] 54))).heap.size := Nat.le_trans hz (by simp)
      clear r_h q_h z_h
      generalize (W3.alloc (.cells #[.int .i64 0, .int .i64 0, .int .i64 0, .slice none 0 0, .slice none 0 0, .int .i64 0, .slice none 0 0, .int .i64 0] 54)) = W7 at *
      obtain ⟨r_a, q_a, -, -, -, -, r_h, q_h, -⟩ := HT.out.rules
      have z_a : W3.heap.size < W7.heap.size := (HT.out.in_ 0 rfl rfl).2
      have z_h : w.heap.size < W7.heap.size := (HT.out.in_ 3 rfl rfl).2
      refine ⟨?_, ?_⟩
      · simp only [Again, pick, List.getElem?_toArray, List.getElem?_cons_succ, List.getElem?_cons_zero]
        refine ⟨?_, ?_, ?_, trivial⟩
        all_goals (still_step; exact wpStill_nil rfl)
      refine tr_loud ?_
      simp only [pick, List.getElem?_toArray, List.getElem?_cons_succ, List.getElem?_cons_zero]
      refine wpList_make_full _ rfl (.const (.int .i64 8)) (.const (.int .i64 8)) 52 rfl W7.heap.size 61 iv _ 2 Tryd.underlying52 hiv hv0 hv1 _ _ _ _ 8 rfl rfl rfl rfl (by rw [hv2]; omega) (by unfold maxLen; omega) (Nat.le_refl _) ?next
      case next =>
        intro W8 hown hgr
        replace hown := made_rep alike_v hown
        clear r_a q_a r_h q_h z_a z_h
        obtain ⟨T', K'⟩ := HT.out.ownRow ((Below.refl _ _).grown hgr (Nat.le_refl _) (fun k hk => by cases hk)) hown (m := w.heap.size) (by omega)
        replace HT := Lib.hid T'
        clear T' K'
        replace hz : w.heap.size + 1 + 1 + 1 ≤ W8.heap.size := Nat.le_trans hz hgr.size
        clear hown hgr
        obtain ⟨r_a, q_a, -, -, -, -, r_h, q_h, -⟩ := HT.out.rules
        have z_a : W3.heap.size < W8.heap.size := (HT.out.in_ 1 rfl rfl).2
        have z_h : w.heap.size < W8.heap.size := (HT.out.in_ 4 rfl rfl).2
        go_wp2_with fail
        refine ⟨?_, ?_⟩
        · simp only [Again, pick, List.getElem?_toArray, List.getElem?_cons_succ, List.getElem?_cons_zero]
          refine ⟨?_, ?_, ?_, trivial⟩
          all_goals (still_step; exact wpStill_nil rfl)
        refine tr_still ?_
        simp only [pick, List.getElem?_toArray, List.getElem?_cons_succ, List.getElem?_cons_zero]
        repeat still_step
        refine wpStill_nil ?_
        refine tr_loud ?_
        simp only [pick, List.getElem?_toArray, List.getElem?_cons_succ, List.getElem?_cons_zero]
        go_wp2_with fail
        clear r_a q_a r_h q_h z_a z_h
        obtain ⟨T', K'⟩ := HT.out.put8 1 (.int .i64 kind) (.int .i64 par) (.int .i64 m) (.slice A n c) (.slice (some ⟨W7.heap.size, 0, none⟩) 8 8) (.int .i64 (-1)) (.slice none 0 0) (.int .i64 0) rfl rfl
        simp only [List.set_cons_succ, List.set_cons_zero] at T' K'
        replace HT := Lib.hid T'
        clear T' K'
        replace hz : w.heap.size + 1 + 1 + 1 ≤ (((((((((W8.setCell ⟨W3.heap.size, 0, none⟩ (.int .i64 kind)).setCell ⟨W3.heap.size, 1, none⟩ (.int .i64 par)).setCell ⟨W3.heap.size, 2, none⟩ (.int .i64 m)).setCell ⟨W3.heap.size, 3, none⟩ (.slice A n c)).setCell ⟨W3.heap.size, 4, none⟩ (.slice (some ⟨W7.heap.size, 0, none⟩) 8 8)).setCell ⟨W3.heap.size, 5, none⟩ (.int .i64 (-1))).setCell ⟨W3.heap.size, 6, none⟩ (.slice none 0 0)).setCell ⟨W3.heap.size, 7, none⟩ (.int .i64 0))).heap.size := by simpa using hz
        generalize ((((((((W8.setCell ⟨W3.heap.size, 0, none⟩ (.int .i64 kind)).setCell ⟨W3.heap.size, 1, none⟩ (.int .i64 par)).setCell ⟨W3.heap.size, 2, none⟩ (.int .i64 m)).setCell ⟨W3.heap.size, 3, none⟩ (.slice A n c)).setCell ⟨W3.heap.size, 4, none⟩ (.slice (some ⟨W7.heap.size, 0, none⟩) 8 8)).setCell ⟨W3.heap.size, 5, none⟩ (.int .i64 (-1))).setCell ⟨W3.heap.size, 6, none⟩ (.slice none 0 0)).setCell ⟨W3.heap.size, 7, none⟩ (.int .i64 0)) = W9 at *
        obtain ⟨-, -, -, -, -, -, r_h, q_h, -⟩ := HT.out.rules
        have z_h : w.heap.size < W9.heap.size := (HT.out.in_ 4 rfl rfl).2
        refine ⟨trivial, ?_⟩
        have hP9 := HT.out.perm (R' := [.blk W3.heap.size #[.int .i64 kind, .int .i64 par, .int .i64 m, .slice A n c, .slice (some ⟨W7.heap.size, 0, none⟩) 8 8, .int .i64 (-1), .slice none 0 0, .int .i64 0] 54, .row w.heap.size 61 2 (.slice (some ⟨W7.heap.size, 0, none⟩) 8 8) 8 (List.replicate (8 * 2) (.int .i64 0)), .blk (w.heap.size + 1 + 1) #[.int .i64 0, .int .i64 0, .int .i64 0, .slice none 0 0, .slice none 0 0, .int .i64 0, .slice none 0 0, .int .i64 0] 54, .blk (w.heap.size + 1) #[.int .i64 v.k, .int .i64 v.n] 61, .blk w.heap.size #[.int .i64 m, .slice A n c] 51]) (.swap _ _ _)
        refine tr_done ?_
        refine ⟨W3.heap.size, W7.heap.size, hP9.1, hz, ?_⟩
        repeat (apply Exists.intro)
        try simp only [Act.put, List.setIfInBounds_toArray, List.set_cons_succ, List.set_cons_zero]
        rfl
  clear r_out q_out r_v q_v r_h q_h z_out z_v z_h
  intro a9 W2 hR
  obtain ⟨ga, gr, ht, nhz, g10, g11, g12, g13, g14, rfl⟩ := hR
  clear HT hz
  have HT := Lib.hid ht
  have hz := nhz
  clear ht nhz
  try simp only [Act.put, List.setIfInBounds_toArray, List.set_cons_succ, List.set_cons_zero]
  obtain ⟨r_a, q_a, r_out, q_out, r_v, q_v, r_h, q_h, -⟩ := HT.out.rules
  have z_a : ga < W2.heap.size := (HT.out.in_ 0 rfl rfl).2
  have z_out : w.heap.size + 1 + 1 < W2.heap.size := (HT.out.in_ 2 rfl rfl).2
  have z_v : w.heap.size + 1 < W2.heap.size := (HT.out.in_ 3 rfl rfl).2
  have z_h : w.heap.size < W2.heap.size := (HT.out.in_ 4 rfl rfl).2
  have hgr := HT.out.own 1 rfl
  obtain ⟨k0, k1⟩ := row_first hgr rfl
  have q_r := fun i => HT.out.rowFree 1 rfl i
  have z_gr : gr < W2.heap.size := (HT.out.in_ 1 rfl rfl).2
  have hne1 : gr ≠ ga := fun e => HT.out.ne 0 1 (by decide) rfl rfl (b := ga) (c := gr) rfl rfl e.symm
  clear hgr
  go_upto_region 3 with fail
  clear r_a q_a r_out q_out r_v q_v r_h q_h z_a z_out z_v z_h k0 k1 q_r z_gr
  obtain ⟨T', K'⟩ := HT.out.rowFirst 1 v rfl
  simp only [List.set_cons_succ, List.set_cons_zero] at T' K'
  replace HT := Lib.hid T'
  clear T' K'
  replace hz : w.heap.size + 1 + 1 + 1 ≤ (((W2.setCell ⟨gr, 0, none⟩ (.int .i64 v.k)).setCell ⟨gr, 1, none⟩ (.int .i64 v.n))).heap.size := by simpa using hz
  generalize (W2.setCell ⟨gr, 0, none⟩ (.int .i64 v.k)).setCell ⟨gr, 1, none⟩ (.int .i64 v.n) = Wq at *
  obtain ⟨r_a, q_a, r_out, q_out, -⟩ := HT.out.rules
  have z_a : ga < Wq.heap.size := (HT.out.in_ 0 rfl rfl).2
  have z_out : w.heap.size + 1 + 1 < Wq.heap.size := (HT.out.in_ 2 rfl rfl).2
  go_wp2_with fail
  clear r_a q_a r_out q_out z_a z_out
  obtain ⟨T', K'⟩ := HT.out.put8 2 (.int .i64 kind) (.int .i64 par) (.int .i64 m) (.slice A n c) (.slice (some ⟨gr, 0, none⟩) 8 8) (.int .i64 (-1)) (.slice none 0 0) (.int .i64 0) rfl rfl
  simp only [List.set_cons_succ, List.set_cons_zero] at T' K'
  replace HT := Lib.hid T'
  clear T' K'
  replace hz : w.heap.size + 1 + 1 + 1 ≤ (((((((((Wq.setCell ⟨w.heap.size + 1 + 1, 0, none⟩ (.int .i64 kind)).setCell ⟨w.heap.size + 1 + 1, 1, none⟩ (.int .i64 par)).setCell ⟨w.heap.size + 1 + 1, 2, none⟩ (.int .i64 m)).setCell ⟨w.heap.size + 1 + 1, 3, none⟩ (.slice A n c)).setCell ⟨w.heap.size + 1 + 1, 4, none⟩ (.slice (some ⟨gr, 0, none⟩) 8 8)).setCell ⟨w.heap.size + 1 + 1, 5, none⟩ (.int .i64 (-1))).setCell ⟨w.heap.size + 1 + 1, 6, none⟩ (.slice none 0 0)).setCell ⟨w.heap.size + 1 + 1, 7, none⟩ (.int .i64 0))).heap.size := by simpa using hz
  generalize ((((((((Wq.setCell ⟨w.heap.size + 1 + 1, 0, none⟩ (.int .i64 kind)).setCell ⟨w.heap.size + 1 + 1, 1, none⟩ (.int .i64 par)).setCell ⟨w.heap.size + 1 + 1, 2, none⟩ (.int .i64 m)).setCell ⟨w.heap.size + 1 + 1, 3, none⟩ (.slice A n c)).setCell ⟨w.heap.size + 1 + 1, 4, none⟩ (.slice (some ⟨gr, 0, none⟩) 8 8)).setCell ⟨w.heap.size + 1 + 1, 5, none⟩ (.int .i64 (-1))).setCell ⟨w.heap.size + 1 + 1, 6, none⟩ (.slice none 0 0)).setCell ⟨w.heap.size + 1 + 1, 7, none⟩ (.int .i64 0)) = W10 at *
  obtain ⟨r_a, q_a, r_out, q_out, -⟩ := HT.out.rules
  have z_a : ga < W10.heap.size := (HT.out.in_ 0 rfl rfl).2
  have z_out : w.heap.size + 1 + 1 < W10.heap.size := (HT.out.in_ 2 rfl rfl).2
  refine bodyPost_ret (v := .agg #[.int .i64 kind, .int .i64 par, .int .i64 m, .slice A n c, .slice (some ⟨gr, 0, none⟩) 8 8, .int .i64 (-1), .slice none 0 0, .int .i64 0]) (by simp [results, Tryd.results57, go_sem, r_out]) rfl ?_
  exact ⟨gr, 8, rfl, HT.out.own 1 rfl, HT.out.below⟩
end
section
open Go.RowKit
/-- What a new world leaves. -/
def NewD (w : World) (most : Int) (en : Ending) (w' : World) : Prop :=
  ∃ L : Lay, L.pA = none ∧ L.pc = 0 ∧ en = .returned (.tuple #[.agg #[.slice (some ⟨L.g, 0, none⟩) 1 L.gc, .slice none 0 0], .int .i64 0]) ∧ St w.heap.size w w' [stR false 0 (newW_ most) L []] ∧ Heaps w' (Fr w.heap.size [stR false 0 (newW_ most) L []]) (newW_ most) L
/-- Its heap, step by step. -/
theorem new_steps {most : Int} (h : 2 ≤ most ∧ most ≤ 60) : allocE ⟨most, []⟩ 2 = 0 ∧ allocH ⟨most, []⟩ 2 = ⟨most, [zeroOb 2]⟩ ∧ allocV ⟨most, []⟩ 2 = ⟨2, 0⟩ ∧ setE ⟨most, [zeroOb 2]⟩ ⟨2, 0⟩ 0 ⟨1, 0⟩ = 0 ∧
    setH ⟨most, [zeroOb 2]⟩ ⟨2, 0⟩ 0 ⟨1, 0⟩ = ⟨most, [⟨[⟨1, 0⟩, ⟨0, 0⟩], false⟩]⟩ ∧ setE ⟨most, [⟨[⟨1, 0⟩, ⟨0, 0⟩], false⟩]⟩ ⟨2, 0⟩ 1 ⟨1, 0⟩ = 0 ∧ setH ⟨most, [⟨[⟨1, 0⟩, ⟨0, 0⟩], false⟩]⟩ ⟨2, 0⟩ 1 ⟨1, 0⟩ = ⟨most, [⟨[⟨1, 0⟩, ⟨1, 0⟩], false⟩]⟩ := by
  have a1 : allocE ⟨most, []⟩ 2 = 0 := by
    unfold allocE
    rw [if_neg (by simp [hpB, limB]; omega), if_neg (by decide), if_neg (by simp; omega)]
  have a2 : allocH ⟨most, []⟩ 2 = ⟨most, [zeroOb 2]⟩ := if_pos a1
  have a3 : allocV ⟨most, []⟩ 2 = ⟨2, 0⟩ := if_pos a1
  have a4 : setE ⟨most, [zeroOb 2]⟩ ⟨2, 0⟩ 0 ⟨1, 0⟩ = 0 := by
    unfold setE
    rw [if_neg (by simp [hpB, limB, obB, zeroOb, valB, wordB]; omega)]
    rfl
  have a5 : setH ⟨most, [zeroOb 2]⟩ ⟨2, 0⟩ 0 ⟨1, 0⟩ = ⟨most, [⟨[⟨1, 0⟩, ⟨0, 0⟩], false⟩]⟩ := if_pos a4
  have a6 : setE ⟨most, [⟨[⟨1, 0⟩, ⟨0, 0⟩], false⟩]⟩ ⟨2, 0⟩ 1 ⟨1, 0⟩ = 0 := by
    unfold setE
    rw [if_neg (by simp [hpB, limB, obB, valB, wordB]; omega)]
    rfl
  have a7 : setH ⟨most, [⟨[⟨1, 0⟩, ⟨0, 0⟩], false⟩]⟩ ⟨2, 0⟩ 1 ⟨1, 0⟩ = ⟨most, [⟨[⟨1, 0⟩, ⟨1, 0⟩], false⟩]⟩ := if_pos a6
  exact ⟨a1, a2, a3, a4, a5, a6, a7⟩
theorem St.newWorld {B : Nat} {w0 w : World} {bA gr rc base nk : Nat} {a : Ac} {L : Lay} {cs : Array Value} (h : St B w0 w [.blk bA cs 54, .row base 61 2 (.slice (some ⟨gr, 0, none⟩) 8 rc) 8 (cat (vcs a.regs))])
    (hcs : cs.toList = acRow L 0 a) (hg : L.g = bA) (hgc : L.gc = 1) (hrg : L.rg 0 = gr) (hrc : L.rc 0 = rc) (hpA : L.pA = none) (hpc : L.pc = 0) (hbox : a.box = []) (hbA : L.bA 0 = none) (hbc : L.bc 0 = 0) (h8 : a.regs.length = 8) :
    St B w0 w [stR false nk ⟨[a], []⟩ L []] ∧ Keeps w [.blk bA cs 54, .row base 61 2 (.slice (some ⟨gr, 0, none⟩) 8 rc) 8 (cat (vcs a.regs))] w [stR false nk ⟨[a], []⟩ L []] := by
  have hsz : cs.size = 1 * 8 := by rw [← Array.length_toList, hcs]; rfl
  obtain ⟨h1, k1⟩ := h.turn (w' := w) 0 rfl (.row 0 54 8 (.slice (some ⟨bA, 0, none⟩) 1 1) 1 cs.toList) (Nat.le_refl _) rfl rfl rfl (fun _ _ _ => rfl) (blk_row (h.heap 0 rfl) hsz (by decide)) (fun b hb => .inl (by
    injection (show some bA = some b from hb) with hb
    exact hb.symm))
  obtain ⟨h2, k2⟩ := h1.turn (w' := w) 1 rfl (.row 0 61 2 (.slice (some ⟨gr, 0, none⟩) 8 rc) 8 (cat (vcs a.regs))) (Nat.le_refl _) rfl rfl rfl (fun _ _ _ => rfl) (own_keep (h1.own 1 rfl) (Nat.zero_le _) (fun _ _ => rfl)) (fun b hb => .inl hb)
  obtain ⟨h3, k3⟩ := h2.stageNone false nk ⟨[a], []⟩ L [.acts, .regs 0] (fun k hk => by
    cases k with
    | head => exact ⟨trivial, fun _ hb => hb⟩
    | acts => exact absurd (by simp) hk
    | prints => exact ⟨by simp only [Lay.own0, hpA, hpc]; exact ⟨rfl, .inl ⟨rfl, rfl⟩⟩, fun b hb => by simp only [Lay.own0, hpA] at hb; cases hb⟩
    | regs i =>
      by_cases hi : i = 0
      · subst hi; exact absurd (by simp) hk
      · have e : ([a] : List Ac)[i]? = none := List.getElem?_eq_none (by simp; omega)
        simp only [Lay.own0, e]; exact ⟨trivial, fun _ hb => hb⟩
    | box i =>
      by_cases hi : i = 0
      · subst hi
        simp only [Lay.own0, List.getElem?_cons_zero, boxRow, hbox, hbA, hbc]
        exact ⟨⟨rfl, .inl ⟨rfl, rfl⟩⟩, fun b hb => by cases hb⟩
      · have e : ([a] : List Ac)[i]? = none := List.getElem?_eq_none (by simp; omega)
        simp only [Lay.own0, e]; exact ⟨trivial, fun _ hb => hb⟩) (fun x hx => by simp at hx; subst hx; exact h8)
  obtain ⟨h4, k4⟩ := h3.perm (.swap _ _ _)
  obtain ⟨h5, k5⟩ := h4.plug 0 rfl (by simp only [Lay.own0, hg, hgc, acRows, List.mapIdx_cons, List.mapIdx_nil, cat, List.flatten_cons, List.flatten_nil, List.append_nil, List.length_cons, List.length_nil, hcs]) (by simp)
  obtain ⟨h6, k6⟩ := h5.perm (.swap _ _ _)
  obtain ⟨h7, k7⟩ := h6.plug 0 rfl (by simp only [Lay.own0, List.getElem?_cons_zero, regsRow, hrg, hrc]) (by simp)
  exact ⟨h7, (((((k1.trans (Nat.le_refl _) k2).trans (Nat.le_refl _) k3).trans (Nat.le_refl _) k4).trans (Nat.le_refl _) k5).trans (Nat.le_refl _) k6).trans (Nat.le_refl _) k7⟩
theorem newW_objs {w : World} {S : Nat → Prop} {most : Int} {A : Option Addr} {c i : Nat} {a : Ac} (ha : (newW_ most).actors[i]? = some a) (h : RdSl obE w S (.slice A 1 c) [⟨[⟨1, 0⟩, ⟨1, 0⟩], false⟩]) : RdSl obE w S (.slice A a.heap.objs.length c) a.heap.objs := by
  cases i with
  | zero => simp [newW_] at ha; subst ha; exact h
  | succ i => simp [newW_] at ha
set_option maxRecDepth 100000 in
set_option maxHeartbeats 8000000 in
theorem newBad_any (S : Nat → Prop) (A : Option Addr) (c : Nat) (ps : List (List Ins)) (most e : Int) (w : World) (hE : newE_ ps most = e) (he : e ≠ 0) (hu : UsesAt w) (hr : RdSl pgE w S (.slice A ps.length c) ps) :
    Calls Tryd.prog 21 #[.agg #[.slice A ps.length c], .int .i64 most] w fun en w' => en = .returned (.tuple #[.agg #[.slice none 0 0, .slice none 0 0], .int .i64 e]) ∧ Below w.heap.size w w' := by
  have Hu := Lib.hid hu
  have Hr := Lib.hid hr
  clear hu hr
  have T0 : St w.heap.size w (((w.alloc (.cells #[.slice A ps.length c] 26)).alloc (.cells #[.slice none 0 0, .slice none 0 0] 32))) [.blk (w.heap.size + 1) #[.slice none 0 0, .slice none 0 0] 32, .blk w.heap.size #[.slice A ps.length c] 26] := ((((St.start w (Nat.le_refl _)).new' #[.slice A ps.length c] 26 (w.heap.size) (by simp)).1).new' #[.slice none 0 0, .slice none 0 0] 32 (w.heap.size + 1) (by simp)).1
  have HT := Lib.hid T0
  have hz : w.heap.size + 1 + 1 ≤ ((w.alloc (.cells #[.slice A ps.length c] 26)).alloc (.cells #[.slice none 0 0, .slice none 0 0] 32)).heap.size := by simp
  clear T0
  replace Hr : Hid (RdSl pgE (((w.alloc (.cells #[.slice A ps.length c] 26)).alloc (.cells #[.slice none 0 0, .slice none 0 0] 32))) (Fr 0 [.blk (w.heap.size + 1) #[.slice none 0 0, .slice none 0 0] 32, .blk w.heap.size #[.slice A ps.length c] 26]) (.slice A ps.length c) ps) := Lib.hid (RdSl.pool (E := pgE) Hr.out (by show 0 < 1; omega) HT.out)
  unfold newE_ at hE
  have GV := Lib.hid (fun W (h : UsesAt W) S (h2 : RdSl pgE W S (.slice A ps.length c) ps) => verCheck_any S A c ps W h h2)
  generalize verP ps = r at *
  obtain ⟨r0, r1, r2⟩ := r
  dsimp only at hE GV
  have HE := Lib.hid hE
  clear hE
  go_enter Tryd.func21, Tryd.ntmps21
  go_upto_region 1 with fail
  generalize ((w.alloc (.cells #[.slice A ps.length c] 26)).alloc (.cells #[.slice none 0 0, .slice none 0 0] 32)) = W1 at *
  obtain ⟨r_out, q_out, r_p, q_p, -⟩ := HT.out.rules
  have z_out : w.heap.size + 1 < W1.heap.size := (HT.out.in_ 0 rfl rfl).2
  have z_p : w.heap.size < W1.heap.size := (HT.out.in_ 1 rfl rfl).2
  go_wp2_with fail
  refine (GV.out _ (Hu.out.below HT.out.below) _ Hr.out).mono ?_
  rintro en W2 ⟨rfl, hb⟩
  clear r_out q_out r_p q_p z_out z_p
  obtain ⟨T', K'⟩ := HT.out.call hb
  replace HT := Lib.hid T'
  replace Hr := Lib.hid (Hr.out.move (by show 0 < 1; omega) K')
  clear T' K'
  replace hz : w.heap.size + 1 + 1 ≤ W2.heap.size := Nat.le_trans hz hb.size
  clear hb
  obtain ⟨r_out, q_out, r_p, q_p, -⟩ := HT.out.rules
  have z_out : w.heap.size + 1 < W2.heap.size := (HT.out.in_ 0 rfl rfl).2
  have z_p : w.heap.size < W2.heap.size := (HT.out.in_ 1 rfl rfl).2
  clear GV
  clear Hr
  by_cases h2 : r2 = 0
  · subst h2
    have hE := HE.out
    rw [if_neg (by decide)] at hE
    have hm : most < 2 ∨ 60 < most := by
      by_cases hm : most < 2 ∨ 60 < most
      · exact hm
      · rw [if_neg hm] at hE; exact absurd hE.symm he
    rw [if_pos hm] at hE
    subst hE
    by_cases hm2 : most < 2
    · clear hm he
      go_wp2_with fail
      clear r_out q_out r_p q_p z_out z_p
      obtain ⟨T', K'⟩ := HT.out.put2 0 (.slice none 0 0) (.slice none 0 0) rfl rfl
      simp only [List.set_cons_zero] at T' K'
      replace HT := Lib.hid T'
      clear T' K'
      replace hz : w.heap.size + 1 + 1 ≤ (((W2.setCell ⟨w.heap.size + 1, 0, none⟩ (.slice none 0 0)).setCell ⟨w.heap.size + 1, 1, none⟩ (.slice none 0 0))).heap.size := by simpa using hz
      generalize (W2.setCell ⟨w.heap.size + 1, 0, none⟩ (.slice none 0 0)).setCell ⟨w.heap.size + 1, 1, none⟩ (.slice none 0 0) = W4 at *
      obtain ⟨r_out, q_out, r_p, q_p, -⟩ := HT.out.rules
      have z_out : w.heap.size + 1 < W4.heap.size := (HT.out.in_ 0 rfl rfl).2
      have z_p : w.heap.size < W4.heap.size := (HT.out.in_ 1 rfl rfl).2
      try simp only [Exit.inBlock, Exit.then]
      refine bodyPost_ret (v := .tuple #[.agg #[.slice none 0 0, .slice none 0 0], .int .i64 2]) (by simp [results, Tryd.results21, go_sem, r_out]) rfl ?_
      exact ⟨rfl, HT.out.below⟩
    · have hm3 : 60 < most := by omega
      clear hm he
      go_wp2_with fail
      clear r_out q_out r_p q_p z_out z_p
      obtain ⟨T', K'⟩ := HT.out.put2 0 (.slice none 0 0) (.slice none 0 0) rfl rfl
      simp only [List.set_cons_zero] at T' K'
      replace HT := Lib.hid T'
      clear T' K'
      replace hz : w.heap.size + 1 + 1 ≤ (((W2.setCell ⟨w.heap.size + 1, 0, none⟩ (.slice none 0 0)).setCell ⟨w.heap.size + 1, 1, none⟩ (.slice none 0 0))).heap.size := by simpa using hz
      generalize (W2.setCell ⟨w.heap.size + 1, 0, none⟩ (.slice none 0 0)).setCell ⟨w.heap.size + 1, 1, none⟩ (.slice none 0 0) = W5 at *
      obtain ⟨r_out, q_out, r_p, q_p, -⟩ := HT.out.rules
      have z_out : w.heap.size + 1 < W5.heap.size := (HT.out.in_ 0 rfl rfl).2
      have z_p : w.heap.size < W5.heap.size := (HT.out.in_ 1 rfl rfl).2
      try simp only [Exit.inBlock, Exit.then]
      refine bodyPost_ret (v := .tuple #[.agg #[.slice none 0 0, .slice none 0 0], .int .i64 2]) (by simp [results, Tryd.results21, go_sem, r_out]) rfl ?_
      exact ⟨rfl, HT.out.below⟩
  · have e2 : (r2 != 0) = true := by simpa using h2
    have hE := HE.out
    rw [if_pos h2] at hE
    subst hE
    clear h2
    go_wp2_with fail
    clear r_out q_out r_p q_p z_out z_p
    obtain ⟨T', K'⟩ := HT.out.put2 0 (.slice none 0 0) (.slice none 0 0) rfl rfl
    simp only [List.set_cons_zero] at T' K'
    replace HT := Lib.hid T'
    clear T' K'
    replace hz : w.heap.size + 1 + 1 ≤ (((W2.setCell ⟨w.heap.size + 1, 0, none⟩ (.slice none 0 0)).setCell ⟨w.heap.size + 1, 1, none⟩ (.slice none 0 0))).heap.size := by simpa using hz
    generalize (W2.setCell ⟨w.heap.size + 1, 0, none⟩ (.slice none 0 0)).setCell ⟨w.heap.size + 1, 1, none⟩ (.slice none 0 0) = W3 at *
    obtain ⟨r_out, q_out, r_p, q_p, -⟩ := HT.out.rules
    have z_out : w.heap.size + 1 < W3.heap.size := (HT.out.in_ 0 rfl rfl).2
    have z_p : w.heap.size < W3.heap.size := (HT.out.in_ 1 rfl rfl).2
    try simp only [Exit.inBlock, Exit.then]
    refine bodyPost_ret (v := .tuple #[.agg #[.slice none 0 0, .slice none 0 0], .int .i64 r2]) (by simp [results, Tryd.results21, go_sem, r_out]) rfl ?_
    exact ⟨rfl, HT.out.below⟩
set_option maxRecDepth 100000 in
set_option maxHeartbeats 8000000 in
theorem newOk_any (S : Nat → Prop) (A : Option Addr) (c : Nat) (ps : List (List Ins)) (most : Int) (w : World) (hE : newE_ ps most = 0) (hu : UsesAt w) (hr : RdSl pgE w S (.slice A ps.length c) ps) :
    Calls Tryd.prog 21 #[.agg #[.slice A ps.length c], .int .i64 most] w (NewD w most) := by
  unfold NewD
  have Hu := Lib.hid hu
  have Hr := Lib.hid hr
  clear hu hr
  have T0 : St w.heap.size w (((w.alloc (.cells #[.slice A ps.length c] 26)).alloc (.cells #[.slice none 0 0, .slice none 0 0] 32))) [.blk (w.heap.size + 1) #[.slice none 0 0, .slice none 0 0] 32, .blk w.heap.size #[.slice A ps.length c] 26] := ((((St.start w (Nat.le_refl _)).new' #[.slice A ps.length c] 26 (w.heap.size) (by simp)).1).new' #[.slice none 0 0, .slice none 0 0] 32 (w.heap.size + 1) (by simp)).1
  have HT := Lib.hid T0
  have hz : w.heap.size + 1 + 1 ≤ ((w.alloc (.cells #[.slice A ps.length c] 26)).alloc (.cells #[.slice none 0 0, .slice none 0 0] 32)).heap.size := by simp
  clear T0
  replace Hr : Hid (RdSl pgE (((w.alloc (.cells #[.slice A ps.length c] 26)).alloc (.cells #[.slice none 0 0, .slice none 0 0] 32))) (Fr 0 [.blk (w.heap.size + 1) #[.slice none 0 0, .slice none 0 0] 32, .blk w.heap.size #[.slice A ps.length c] 26]) (.slice A ps.length c) ps) := Lib.hid (RdSl.pool (E := pgE) Hr.out (by show 0 < 1; omega) HT.out)
  unfold newE_ at hE
  have GV := Lib.hid (fun W (h : UsesAt W) S (h2 : RdSl pgE W S (.slice A ps.length c) ps) => verCheck_any S A c ps W h h2)
  generalize verP ps = r at *
  obtain ⟨r0, r1, r2⟩ := r
  dsimp only at hE GV
  have HE := Lib.hid hE
  clear hE
  go_enter Tryd.func21, Tryd.ntmps21
  go_upto_region 1 with fail
  generalize ((w.alloc (.cells #[.slice A ps.length c] 26)).alloc (.cells #[.slice none 0 0, .slice none 0 0] 32)) = W1 at *
  obtain ⟨r_out, q_out, r_p, q_p, -⟩ := HT.out.rules
  have z_out : w.heap.size + 1 < W1.heap.size := (HT.out.in_ 0 rfl rfl).2
  have z_p : w.heap.size < W1.heap.size := (HT.out.in_ 1 rfl rfl).2
  go_wp2_with fail
  refine (GV.out _ (Hu.out.below HT.out.below) _ Hr.out).mono ?_
  rintro en W2 ⟨rfl, hb⟩
  clear r_out q_out r_p q_p z_out z_p
  obtain ⟨T', K'⟩ := HT.out.call hb
  replace HT := Lib.hid T'
  replace Hr := Lib.hid (Hr.out.move (by show 0 < 1; omega) K')
  clear T' K'
  replace hz : w.heap.size + 1 + 1 ≤ W2.heap.size := Nat.le_trans hz hb.size
  clear hb
  obtain ⟨r_out, q_out, r_p, q_p, -⟩ := HT.out.rules
  have z_out : w.heap.size + 1 < W2.heap.size := (HT.out.in_ 0 rfl rfl).2
  have z_p : w.heap.size < W2.heap.size := (HT.out.in_ 1 rfl rfl).2
  clear GV
  clear Hr
  have hE := HE.out
  have h2 : r2 = 0 := by
    by_cases h2 : r2 = 0
    · exact h2
    · rw [if_pos h2] at hE; exact absurd hE h2
  subst h2
  rw [if_neg (by decide)] at hE
  have hm : ¬ (most < 2 ∨ 60 < most) := fun hm => by rw [if_pos hm] at hE; cases hE
  clear hE HE
  have m1 : ¬ most < 2 := by omega
  have m2 : ¬ 60 < most := by omega
  have m3 : ¬ most > 60 := by omega
  have n1 : newM most = most := if_pos (by omega)
  have n2 : newE most = 0 := if_pos (by omega)
  have GNw := new_any most
  rw [n1, n2] at GNw
  have HGN := Lib.hid GNw
  obtain ⟨s1, s2, s3, s4, s5, s6, s7⟩ := new_steps (most := most) (by omega)
  have HS := Lib.hid (And.intro s1 (And.intro s2 (And.intro s3 (And.intro s4 (And.intro s5 (And.intro s6 s7))))))
  clear n1 n2 hm s1 s2 s3 s4 s5 s6 s7 GNw
  go_wp2_with fail
  refine (HGN.out _).mono ?_
  rintro en W3 ⟨rfl, hb⟩
  clear r_out q_out r_p q_p z_out z_p
  obtain ⟨T', K'⟩ := HT.out.call hb
  replace HT := Lib.hid T'
  clear T' K'
  replace hz : w.heap.size + 1 + 1 ≤ W3.heap.size := Nat.le_trans hz hb.size
  clear hb
  obtain ⟨r_out, q_out, r_p, q_p, -⟩ := HT.out.rules
  have z_out : w.heap.size + 1 < W3.heap.size := (HT.out.in_ 0 rfl rfl).2
  have z_p : w.heap.size < W3.heap.size := (HT.out.in_ 1 rfl rfl).2
  clear HGN
  go_upto_region 7 with fail
  obtain ⟨T', K'⟩ := HT.out.new' #[.int .i64 most, .slice none 0 0] 51 W3.heap.size (by first | (simp; done) | rfl)
  replace HT := Lib.hid T'
  clear T' K'
  replace hz : w.heap.size + 1 + 1 ≤ ((W3.alloc (.cells #[.int .i64 most, .slice none 0 0] 51))).heap.size := Nat.le_trans hz (by simp)
  clear r_out q_out r_p q_p z_out z_p
  generalize (W3.alloc (.cells #[.int .i64 most, .slice none 0 0] 51)) = W4 at *
  obtain ⟨r_h, q_h, r_out, q_out, -⟩ := HT.out.rules
  have z_h : W3.heap.size < W4.heap.size := (HT.out.in_ 0 rfl rfl).2
  have z_out : w.heap.size + 1 < W4.heap.size := (HT.out.in_ 1 rfl rfl).2
  go_wp2_with fail
  have GA := alloc_any most (fun _ => True) none 0 [] 2 W4 RdSl.nil
  unfold Alloced at GA
  rw [HS.out.1, HS.out.2.1, HS.out.2.2.1] at GA
  have HGA := Lib.hid GA
  clear GA
  refine (HGA.out).mono ?_
  rintro en W5 ⟨u1, rfl, ⟨A1, c1, rfl, hra⟩, hb⟩
  clear r_h q_h r_out q_out z_h z_out
  have Hfresh := Lib.hid (HT.out)
  have hzo : w.heap.size ≤ W4.heap.size := by omega
  obtain ⟨T', K'⟩ := HT.out.call hb
  replace HT := Lib.hid T'
  clear T' K'
  replace hz : w.heap.size + 1 + 1 ≤ W5.heap.size := Nat.le_trans hz hb.size
  clear hb
  have Ho : Hid (RdSl obE W5 (Fr w.heap.size [.blk W3.heap.size #[.int .i64 most, .slice none 0 0] 51, .blk (w.heap.size + 1) #[.slice none 0 0, .slice none 0 0] 32, .blk w.heap.size #[.slice A ps.length c] 26]) (.slice A1 [zeroOb 2].length c1) ([zeroOb 2])) := Lib.hid (hra.fresh (by first | decide | (show 0 < 1; omega)) Hfresh.out hzo)
  clear hra
  clear Hfresh hzo
  obtain ⟨r_h, q_h, r_out, q_out, -⟩ := HT.out.rules
  have z_h : W3.heap.size < W5.heap.size := (HT.out.in_ 0 rfl rfl).2
  have z_out : w.heap.size + 1 < W5.heap.size := (HT.out.in_ 1 rfl rfl).2
  clear HGA
  go_upto_region 8 with fail
  clear r_h q_h r_out q_out z_h z_out
  obtain ⟨T', K'⟩ := HT.out.put2 0 (.int .i64 most) (.slice A1 1 c1) rfl rfl
  simp only [List.set_cons_zero] at T' K'
  replace HT := Lib.hid T'
  replace Ho := Lib.hid (Ho.out.move (by decide) K')
  clear T' K'
  replace hz : w.heap.size + 1 + 1 ≤ (((W5.setCell ⟨W3.heap.size, 0, none⟩ (.int .i64 most)).setCell ⟨W3.heap.size, 1, none⟩ (.slice A1 1 c1))).heap.size := by simpa using hz
  obtain ⟨T', K'⟩ := HT.out.new' #[.int .i64 2, .int .i64 0] 61 W5.heap.size (by first | (simp; done) | rfl)
  replace HT := Lib.hid T'
  replace Ho := Lib.hid (Ho.out.move (by decide) K')
  clear T' K'
  replace hz : w.heap.size + 1 + 1 ≤ ((((W5.setCell ⟨W3.heap.size, 0, none⟩ (.int .i64 most)).setCell ⟨W3.heap.size, 1, none⟩ (.slice A1 1 c1)).alloc (.cells #[.int .i64 2, .int .i64 0] 61))).heap.size := Nat.le_trans hz (by simp)
  generalize (((W5.setCell ⟨W3.heap.size, 0, none⟩ (.int .i64 most)).setCell ⟨W3.heap.size, 1, none⟩ (.slice A1 1 c1)).alloc (.cells #[.int .i64 2, .int .i64 0] 61)) = W6 at *
  obtain ⟨r_v, q_v, r_h, q_h, r_out, q_out, -⟩ := HT.out.rules
  have z_v : W5.heap.size < W6.heap.size := (HT.out.in_ 0 rfl rfl).2
  have z_h : W3.heap.size < W6.heap.size := (HT.out.in_ 1 rfl rfl).2
  have z_out : w.heap.size + 1 < W6.heap.size := (HT.out.in_ 2 rfl rfl).2
  refine wp_region_plan [.still [0, 1], .loud 2 [0, 1], .loud 3 [], .still [4, 5, 6], .loud 7 [6]] (by kernel_rfl) (by kernel_rfl) ?_
  refine plan_still ?_
  simp only [pick, List.getElem?_toArray, List.getElem?_cons_succ, List.getElem?_cons_zero]
  repeat still_step
  refine wpStill_nil ?_
  refine plan_loud ?_
  simp only [pick, List.getElem?_toArray, List.getElem?_cons_succ, List.getElem?_cons_zero]
  go_wp2_with fail
  obtain ⟨T', K'⟩ := HT.out.drew'
  replace HT := Lib.hid T'
  replace Ho := Lib.hid (Ho.out.move (by decide) K')
  clear T' K'
  replace hz : w.heap.size + 1 + 1 ≤ W6.drew.heap.size := hz
  refine (numberA_any 0 _).mono ?_
  rintro en W7 ⟨rfl, hb⟩
  clear r_v q_v r_h q_h r_out q_out z_v z_h z_out
  obtain ⟨T', K'⟩ := HT.out.call hb
  replace HT := Lib.hid T'
  replace Ho := Lib.hid (Ho.out.move (by decide) K')
  clear T' K'
  replace hz : w.heap.size + 1 + 1 ≤ W7.heap.size := Nat.le_trans hz hb.size
  clear hb
  obtain ⟨r_v, q_v, r_h, q_h, r_out, q_out, -⟩ := HT.out.rules
  have z_v : W5.heap.size < W7.heap.size := (HT.out.in_ 0 rfl rfl).2
  have z_h : W3.heap.size < W7.heap.size := (HT.out.in_ 1 rfl rfl).2
  have z_out : w.heap.size + 1 < W7.heap.size := (HT.out.in_ 2 rfl rfl).2
  go_wp2_with fail
  refine ⟨?_, ?_⟩
  · simp only [Again, pick, List.getElem?_toArray, List.getElem?_cons_succ, List.getElem?_cons_zero]
    refine ⟨?_, ?_, trivial⟩
    all_goals (still_step; exact wpStill_nil rfl)
  refine plan_loud ?_
  simp only [pick, List.getElem?_toArray, List.getElem?_cons_succ, List.getElem?_cons_zero]
  go_wp2_with fail
  have GS := set_any most _ A1 c1 [zeroOb 2] ⟨2, 0⟩ 0 ⟨1, 0⟩ W7 Ho.out
  unfold SetD at GS
  rw [HS.out.2.2.2.1, HS.out.2.2.2.2.1] at GS
  have HGS := Lib.hid GS
  clear GS
  refine (HGS.out).mono ?_
  rintro en W8 ⟨u2, rfl, ⟨A2, c2, rfl, hra⟩, hb⟩
  clear r_v q_v r_h q_h r_out q_out z_v z_h z_out
  have Hfresh := Lib.hid (HT.out)
  have hzo : w.heap.size ≤ W7.heap.size := by omega
  obtain ⟨T', K'⟩ := HT.out.call hb
  replace HT := Lib.hid T'
  replace Ho := Lib.hid (Ho.out.move (by decide) K')
  clear T' K'
  replace hz : w.heap.size + 1 + 1 ≤ W8.heap.size := Nat.le_trans hz hb.size
  clear hb
  have Hp : Hid (RdSl obE W8 (Fr w.heap.size [.blk W5.heap.size #[.int .i64 2, .int .i64 0] 61, .blk W3.heap.size #[.int .i64 most, .slice A1 1 c1] 51, .blk (w.heap.size + 1) #[.slice none 0 0, .slice none 0 0] 32, .blk w.heap.size #[.slice A ps.length c] 26]) (.slice A2 1 c2) ([⟨[⟨1, 0⟩, ⟨0, 0⟩], false⟩])) := Lib.hid (hra.fresh (by first | decide | (show 0 < 1; omega)) Hfresh.out hzo)
  clear hra
  clear Hfresh hzo
  obtain ⟨r_v, q_v, r_h, q_h, r_out, q_out, -⟩ := HT.out.rules
  have z_v : W5.heap.size < W8.heap.size := (HT.out.in_ 0 rfl rfl).2
  have z_h : W3.heap.size < W8.heap.size := (HT.out.in_ 1 rfl rfl).2
  have z_out : w.heap.size + 1 < W8.heap.size := (HT.out.in_ 2 rfl rfl).2
  clear HGS
  clear Ho
  go_wp2_with fail
  refine ⟨trivial, ?_⟩
  refine plan_still ?_
  simp only [pick, List.getElem?_toArray, List.getElem?_cons_succ, List.getElem?_cons_zero]
  repeat still_step
  refine wpStill_nil ?_
  refine plan_loud ?_
  simp only [pick, List.getElem?_toArray, List.getElem?_cons_succ, List.getElem?_cons_zero]
  go_wp2_with fail
  go_wp2_with fail
  clear r_v q_v r_h q_h r_out q_out z_v z_h z_out
  obtain ⟨T', K'⟩ := HT.out.put2 1 (.int .i64 most) (.slice A2 1 c2) rfl rfl
  simp only [List.set_cons_succ, List.set_cons_zero] at T' K'
  replace HT := Lib.hid T'
  replace Hp := Lib.hid (Hp.out.move (by decide) K')
  clear T' K'
  replace hz : w.heap.size + 1 + 1 ≤ (((W8.setCell ⟨W3.heap.size, 0, none⟩ (.int .i64 most)).setCell ⟨W3.heap.size, 1, none⟩ (.slice A2 1 c2))).heap.size := by simpa using hz
  generalize (W8.setCell ⟨W3.heap.size, 0, none⟩ (.int .i64 most)).setCell ⟨W3.heap.size, 1, none⟩ (.slice A2 1 c2) = W9 at *
  obtain ⟨r_v, q_v, r_h, q_h, r_out, q_out, -⟩ := HT.out.rules
  have z_v : W5.heap.size < W9.heap.size := (HT.out.in_ 0 rfl rfl).2
  have z_h : W3.heap.size < W9.heap.size := (HT.out.in_ 1 rfl rfl).2
  have z_out : w.heap.size + 1 < W9.heap.size := (HT.out.in_ 2 rfl rfl).2
  refine ⟨?_, ?_⟩
  · simp only [Again, pick, List.getElem?_toArray, List.getElem?_cons_succ, List.getElem?_cons_zero]
    refine ⟨?_, trivial⟩
    all_goals (still_step; exact wpStill_nil rfl)
  refine plan_end (NoPanic.normal ?_)
  clear r_v q_v r_h q_h r_out q_out z_v z_h z_out
  obtain ⟨r_v, q_v, r_h, q_h, r_out, q_out, -⟩ := HT.out.rules
  have z_v : W5.heap.size < W9.heap.size := (HT.out.in_ 0 rfl rfl).2
  have z_h : W3.heap.size < W9.heap.size := (HT.out.in_ 1 rfl rfl).2
  have z_out : w.heap.size + 1 < W9.heap.size := (HT.out.in_ 2 rfl rfl).2
  go_wp2_with fail
  refine wp_region_plan [.still [0, 1], .loud 2 [0, 1], .loud 3 [], .still [4, 5, 6], .loud 7 [6]] (by kernel_rfl) (by kernel_rfl) ?_
  refine plan_still ?_
  simp only [pick, List.getElem?_toArray, List.getElem?_cons_succ, List.getElem?_cons_zero]
  repeat still_step
  refine wpStill_nil ?_
  refine plan_loud ?_
  simp only [pick, List.getElem?_toArray, List.getElem?_cons_succ, List.getElem?_cons_zero]
  go_wp2_with fail
  obtain ⟨T', K'⟩ := HT.out.drew'
  replace HT := Lib.hid T'
  replace Hp := Lib.hid (Hp.out.move (by decide) K')
  clear T' K'
  replace hz : w.heap.size + 1 + 1 ≤ W9.drew.heap.size := hz
  refine (numberA_any 0 _).mono ?_
  rintro en W10 ⟨rfl, hb⟩
  clear r_v q_v r_h q_h r_out q_out z_v z_h z_out
  obtain ⟨T', K'⟩ := HT.out.call hb
  replace HT := Lib.hid T'
  replace Hp := Lib.hid (Hp.out.move (by decide) K')
  clear T' K'
  replace hz : w.heap.size + 1 + 1 ≤ W10.heap.size := Nat.le_trans hz hb.size
  clear hb
  obtain ⟨r_v, q_v, r_h, q_h, r_out, q_out, -⟩ := HT.out.rules
  have z_v : W5.heap.size < W10.heap.size := (HT.out.in_ 0 rfl rfl).2
  have z_h : W3.heap.size < W10.heap.size := (HT.out.in_ 1 rfl rfl).2
  have z_out : w.heap.size + 1 < W10.heap.size := (HT.out.in_ 2 rfl rfl).2
  go_wp2_with fail
  refine ⟨?_, ?_⟩
  · simp only [Again, pick, List.getElem?_toArray, List.getElem?_cons_succ, List.getElem?_cons_zero]
    refine ⟨?_, ?_, trivial⟩
    all_goals (still_step; exact wpStill_nil rfl)
  refine plan_loud ?_
  simp only [pick, List.getElem?_toArray, List.getElem?_cons_succ, List.getElem?_cons_zero]
  go_wp2_with fail
  have GS := set_any most _ A2 c2 [⟨[⟨1, 0⟩, ⟨0, 0⟩], false⟩] ⟨2, 0⟩ 1 ⟨1, 0⟩ W10 Hp.out
  unfold SetD at GS
  rw [HS.out.2.2.2.2.2.1, HS.out.2.2.2.2.2.2] at GS
  have HGS := Lib.hid GS
  clear GS
  refine (HGS.out).mono ?_
  rintro en W11 ⟨u2, rfl, ⟨A3, c3, rfl, hra⟩, hb⟩
  clear r_v q_v r_h q_h r_out q_out z_v z_h z_out
  have Hfresh := Lib.hid (HT.out)
  have hzo : w.heap.size ≤ W10.heap.size := by omega
  obtain ⟨T', K'⟩ := HT.out.call hb
  replace HT := Lib.hid T'
  replace Hp := Lib.hid (Hp.out.move (by decide) K')
  clear T' K'
  replace hz : w.heap.size + 1 + 1 ≤ W11.heap.size := Nat.le_trans hz hb.size
  clear hb
  have Hq : Hid (RdSl obE W11 (Fr w.heap.size [.blk W5.heap.size #[.int .i64 2, .int .i64 0] 61, .blk W3.heap.size #[.int .i64 most, .slice A2 1 c2] 51, .blk (w.heap.size + 1) #[.slice none 0 0, .slice none 0 0] 32, .blk w.heap.size #[.slice A ps.length c] 26]) (.slice A3 1 c3) ([⟨[⟨1, 0⟩, ⟨1, 0⟩], false⟩])) := Lib.hid (hra.fresh (by first | decide | (show 0 < 1; omega)) Hfresh.out hzo)
  clear hra
  clear Hfresh hzo
  obtain ⟨r_v, q_v, r_h, q_h, r_out, q_out, -⟩ := HT.out.rules
  have z_v : W5.heap.size < W11.heap.size := (HT.out.in_ 0 rfl rfl).2
  have z_h : W3.heap.size < W11.heap.size := (HT.out.in_ 1 rfl rfl).2
  have z_out : w.heap.size + 1 < W11.heap.size := (HT.out.in_ 2 rfl rfl).2
  clear HGS
  clear Hp
  go_wp2_with fail
  refine ⟨trivial, ?_⟩
  refine plan_still ?_
  simp only [pick, List.getElem?_toArray, List.getElem?_cons_succ, List.getElem?_cons_zero]
  repeat still_step
  refine wpStill_nil ?_
  refine plan_loud ?_
  simp only [pick, List.getElem?_toArray, List.getElem?_cons_succ, List.getElem?_cons_zero]
  go_wp2_with fail
  go_wp2_with fail
  clear r_v q_v r_h q_h r_out q_out z_v z_h z_out
  obtain ⟨T', K'⟩ := HT.out.put2 1 (.int .i64 most) (.slice A3 1 c3) rfl rfl
  simp only [List.set_cons_succ, List.set_cons_zero] at T' K'
  replace HT := Lib.hid T'
  replace Hq := Lib.hid (Hq.out.move (by decide) K')
  clear T' K'
  replace hz : w.heap.size + 1 + 1 ≤ (((W11.setCell ⟨W3.heap.size, 0, none⟩ (.int .i64 most)).setCell ⟨W3.heap.size, 1, none⟩ (.slice A3 1 c3))).heap.size := by simpa using hz
  generalize (W11.setCell ⟨W3.heap.size, 0, none⟩ (.int .i64 most)).setCell ⟨W3.heap.size, 1, none⟩ (.slice A3 1 c3) = W12 at *
  obtain ⟨r_v, q_v, r_h, q_h, r_out, q_out, -⟩ := HT.out.rules
  have z_v : W5.heap.size < W12.heap.size := (HT.out.in_ 0 rfl rfl).2
  have z_h : W3.heap.size < W12.heap.size := (HT.out.in_ 1 rfl rfl).2
  have z_out : w.heap.size + 1 < W12.heap.size := (HT.out.in_ 2 rfl rfl).2
  refine ⟨?_, ?_⟩
  · simp only [Again, pick, List.getElem?_toArray, List.getElem?_cons_succ, List.getElem?_cons_zero]
    refine ⟨?_, trivial⟩
    all_goals (still_step; exact wpStill_nil rfl)
  refine plan_end (NoPanic.normal ?_)
  clear r_v q_v r_h q_h r_out q_out z_v z_h z_out
  obtain ⟨r_v, q_v, r_h, q_h, r_out, q_out, -⟩ := HT.out.rules
  have z_v : W5.heap.size < W12.heap.size := (HT.out.in_ 0 rfl rfl).2
  have z_h : W3.heap.size < W12.heap.size := (HT.out.in_ 1 rfl rfl).2
  have z_out : w.heap.size + 1 < W12.heap.size := (HT.out.in_ 2 rfl rfl).2
  go_wp2_with fail
  refine (begun_any 0 (-1) most A3 1 c3 ⟨2, 0⟩ _).mono ?_
  rintro en Wb ⟨gr, rc, rfl, hown, hb⟩
  clear r_v q_v r_h q_h r_out q_out z_v z_h z_out
  obtain ⟨T', K'⟩ := HT.out.ownRow hb hown (m := w.heap.size) (by omega)
  replace HT := Lib.hid T'
  replace Hq := Lib.hid (Hq.out.move (by decide) K')
  clear T' K'
  replace hz : w.heap.size + 1 + 1 ≤ Wb.heap.size := Nat.le_trans hz hb.size
  clear hb hown
  obtain ⟨r_v, q_v, r_h, q_h, r_out, q_out, -⟩ := HT.out.rules
  have z_v : W5.heap.size < Wb.heap.size := (HT.out.in_ 1 rfl rfl).2
  have z_h : W3.heap.size < Wb.heap.size := (HT.out.in_ 2 rfl rfl).2
  have z_out : w.heap.size + 1 < Wb.heap.size := (HT.out.in_ 3 rfl rfl).2
  go_wp2_with fail
  clear r_v q_v r_h q_h r_out q_out z_v z_h z_out
  obtain ⟨T', K'⟩ := HT.out.put2 3 (.slice (some ⟨Wb.heap.size, 0, none⟩) 1 1) (.slice none 0 0) rfl rfl
  simp only [List.set_cons_succ, List.set_cons_zero] at T' K'
  replace HT := Lib.hid T'
  replace Hq := Lib.hid (Hq.out.move (by decide) K')
  clear T' K'
  replace hz : w.heap.size + 1 + 1 ≤ (((Wb.setCell ⟨w.heap.size + 1, 0, none⟩ (.slice (some ⟨Wb.heap.size, 0, none⟩) 1 1)).setCell ⟨w.heap.size + 1, 1, none⟩ (.slice none 0 0))).heap.size := by simpa using hz
  obtain ⟨T', K'⟩ := HT.out.new' #[.int .i64 0, .int .i64 (-1), .int .i64 most, .slice A3 1 c3, .slice (some ⟨gr, 0, none⟩) 8 rc, .int .i64 (-1), .slice none 0 0, .int .i64 0] 54 Wb.heap.size (by first | (simp; done) | rfl)
  replace HT := Lib.hid T'
  replace Hq := Lib.hid (Hq.out.move (by decide) K')
  clear T' K'
  replace hz : w.heap.size + 1 + 1 ≤ ((((Wb.setCell ⟨w.heap.size + 1, 0, none⟩ (.slice (some ⟨Wb.heap.size, 0, none⟩) 1 1)).setCell ⟨w.heap.size + 1, 1, none⟩ (.slice none 0 0)).alloc (.cells #[.int .i64 0, .int .i64 (-1), .int .i64 most, .slice A3 1 c3, .slice (some ⟨gr, 0, none⟩) 8 rc, .int .i64 (-1), .slice none 0 0, .int .i64 0] 54))).heap.size := Nat.le_trans hz (by simp)
  generalize (((Wb.setCell ⟨w.heap.size + 1, 0, none⟩ (.slice (some ⟨Wb.heap.size, 0, none⟩) 1 1)).setCell ⟨w.heap.size + 1, 1, none⟩ (.slice none 0 0)).alloc (.cells #[.int .i64 0, .int .i64 (-1), .int .i64 most, .slice A3 1 c3, .slice (some ⟨gr, 0, none⟩) 8 rc, .int .i64 (-1), .slice none 0 0, .int .i64 0] 54)) = W13 at *
  obtain ⟨r_A, q_A, -, -, -, -, r_out, q_out, -⟩ := HT.out.rules
  have z_A : Wb.heap.size < W13.heap.size := (HT.out.in_ 0 rfl rfl).2
  have z_out : w.heap.size + 1 < W13.heap.size := (HT.out.in_ 4 rfl rfl).2
  have RO := Lib.hid r_out
  clear r_A q_A r_out q_out z_A z_out
  obtain ⟨T', K'⟩ := HT.out.drop 4
  simp only [List.eraseIdx_cons_succ, List.eraseIdx_cons_zero] at T' K'
  replace HT := Lib.hid T'
  replace Hq := Lib.hid (Hq.out.move (by decide) K')
  clear T' K'
  obtain ⟨T', K'⟩ := HT.out.drop 2
  simp only [List.eraseIdx_cons_succ, List.eraseIdx_cons_zero] at T' K'
  replace HT := Lib.hid T'
  replace Hq := Lib.hid (Hq.out.move (by decide) K')
  clear T' K'
  obtain ⟨T', K'⟩ := HT.out.drop 2
  simp only [List.eraseIdx_cons_succ, List.eraseIdx_cons_zero] at T' K'
  replace HT := Lib.hid T'
  replace Hq := Lib.hid (Hq.out.move (by decide) K')
  clear T' K'
  obtain ⟨T', K'⟩ := HT.out.drop 2
  simp only [List.eraseIdx_cons_succ, List.eraseIdx_cons_zero] at T' K'
  replace HT := Lib.hid T'
  replace Hq := Lib.hid (Hq.out.move (by decide) K')
  clear T' K'
  obtain ⟨T', K'⟩ := St.newWorld (nk := 0) (a := begunA 0 (-1) ⟨most, [⟨[⟨1, 0⟩, ⟨1, 0⟩], false⟩]⟩ ⟨2, 0⟩) (L := (⟨0, none, 0, Wb.heap.size, 1, none, 0, fun _ => A3, fun _ => c3, fun _ => gr, fun _ => rc, fun _ => none, fun _ => 0⟩ : Lay)) HT.out rfl rfl rfl rfl rfl rfl rfl rfl rfl rfl rfl
  replace HT := Lib.hid T'
  replace Hq := Lib.hid (Hq.out.move (by decide) K')
  clear T' K'
  try simp only [Exit.inBlock, Exit.then]
  refine bodyPost_ret (v := .tuple #[.agg #[.slice (some ⟨Wb.heap.size, 0, none⟩) 1 1, .slice none 0 0], .int .i64 0]) (by simp [results, Tryd.results21, go_sem, RO.out]) rfl ?_
  exact ⟨(⟨0, none, 0, Wb.heap.size, 1, none, 0, fun _ => A3, fun _ => c3, fun _ => gr, fun _ => rc, fun _ => none, fun _ => 0⟩ : Lay), rfl, rfl, rfl, HT.out, fun i a ha => newW_objs ha Hq.out⟩
end
end Go.Proofs.YtabcjdalifhpdaaDoor
