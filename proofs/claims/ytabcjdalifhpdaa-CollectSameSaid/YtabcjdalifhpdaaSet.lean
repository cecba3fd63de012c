/- The walk of heap.Set. No condition beside what is read. -/
import Derived.Test.YtabcjdalifhpdaaGet
namespace Go.Proofs.Ytabcjdalifhpdaa
open Go.RowKit

set_option maxRecDepth 100000 in
set_option maxHeartbeats 4000000 in
theorem set_any (m : Int) (S : Nat → Prop) (A : Option Addr) (c : Nat) (os : List Ob) (v : V) (f : Int) (x : V) (w : World) (hr : RdSl obE w S (.slice A os.length c) os) :
    Calls Try.prog 18 #[.agg #[.int .i64 m, .slice A os.length c], .agg #[.int .i64 v.k, .int .i64 v.n], .int .i64 f, .agg #[.int .i64 x.k, .int .i64 x.n]] w (SetD w ⟨m, os⟩ v f x) := by
  have Hr := Lib.hid hr
  obtain ⟨-, h1, h2, h3⟩ := hr.lims
  have H3 : os.length * 32 ≤ 140737488355328 := h3
  clear hr h3
  have hB : Below w.heap.size w (((((w.alloc (.cells #[.int .i64 m, .slice A os.length c] 25)).alloc (.cells #[.int .i64 v.k, .int .i64 v.n] 30)).alloc (.cells #[.int .i64 x.k, .int .i64 x.n] 30)).alloc (.cells #[.int .i64 0, .slice none 0 0] 25)).alloc
      (.cells #[.int .i64 v.k, .int .i64 v.n, .int .i64 x.k, .int .i64 x.n] 30)) :=
    (((((Below.refl _ _).alloc (Nat.le_refl _) _).alloc (by simp) _).alloc (by simp; omega) _).alloc (by simp; omega) _).alloc (by simp; omega) _
  have L0 : Locs (((((w.alloc (.cells #[.int .i64 m, .slice A os.length c] 25)).alloc (.cells #[.int .i64 v.k, .int .i64 v.n] 30)).alloc (.cells #[.int .i64 x.k, .int .i64 x.n] 30)).alloc (.cells #[.int .i64 0, .slice none 0 0] 25)).alloc
      (.cells #[.int .i64 v.k, .int .i64 v.n, .int .i64 x.k, .int .i64 x.n] 30))
      [(w.heap.size + 1 + 1 + 1, #[.int .i64 0, .slice none 0 0], 25), (w.heap.size + 1 + 1, #[.int .i64 x.k, .int .i64 x.n], 30), (w.heap.size + 1, #[.int .i64 v.k, .int .i64 v.n], 30), (w.heap.size, #[.int .i64 m, .slice A os.length c], 25)] :=
    ((((Locs.nil.new rfl).new (by simp)).new (by simp)).new (by simp)).alloc _
  have Hl0 := Lib.hid L0
  have HB := Lib.hid hB
  clear L0 hB
  by_cases he : setE ⟨m, os⟩ v f x = 0
  · have hk : hpB ⟨m, os⟩ [v, x] = true ∧ objectE os v f = 0 := by
      unfold setE at he
      split at he
      · cases he
      · rename_i hp
        exact ⟨by simpa using hp, he⟩
    obtain ⟨hp, ho⟩ := hk
    have eH : setH ⟨m, os⟩ v f x = ⟨m, setOs os v.n.toNat f.toNat x⟩ := if_pos he
    unfold SetD
    rw [eH, he]
    have hc : checkN ⟨m, os⟩ [v, x] = 0 := by simp [checkN, hp]
    have hval : v.k = 2 → 0 ≤ v.n ∧ v.n < os.length := fun hk => valB_ref (by simp [hpB] at hp; exact hp.2.1) hk
    obtain ⟨hk, o, hoo, e1, e2, _⟩ := objectE_ok ho
    obtain ⟨l1, l2⟩ := hval hk
    obtain ⟨vk, vn⟩ := v
    simp only at hk l1 l2 hoo
    subst hk
    obtain ⟨i, rfl⟩ := Int.eq_ofNat_of_zero_le l1
    obtain ⟨j, rfl⟩ := Int.eq_ofNat_of_zero_le e1
    simp only [Int.toNat_natCast] at hoo
    have hj : j < o.fields.length := by omega
    have hi : i < os.length := by omega
    have Hc := Lib.hid hc
    have Ho := Lib.hid ho
    have Hoo := Lib.hid hoo
    have i1 : (0 : Int) ≤ (i : Int) := by omega
    have i2 : (i : Int) < (os.length : Int) := by omega
    have j1 : (0 : Int) ≤ (j : Int) := by omega
    have j2 : (j : Int) < (o.fields.length : Int) := by omega
    clear he eH hc hp ho hoo hval l1 l2 e1 e2
    go_enter Try.func18, Try.ntmps18
    go_wp2_with fail
    refine (check_is m _ _ A _ c 2 os [⟨2, (i : Int)⟩, x] _ _ Hc (Hr.out.below (by decide) HB.out) (rd_two (v := ⟨2, (i : Int)⟩) (x := x) (blk_at (by simp)))).mono ?_
    rintro e w1 ⟨rfl, hb1⟩
    have Hl1 : w.heap.size + 1 + 1 + 1 + 1 < w1.heap.size := by have := hb1.size; simp at this; omega
    have L1 := Hl0.out.after hb1
    have hbb := below_after HB.out hb1
    have HL1 := Lib.hid L1
    obtain ⟨c0, f0, c1, f1, c2, f2, c3, f3, -⟩ := L1.rules
    clear L1
    go_wp2_with fail
    refine (object_is m _ A c os ⟨2, (i : Int)⟩ (j : Int) _ 0 Ho (fun _ => ⟨i1, i2⟩) (Hr.out.below (by decide) hbb)).mono ?_
    rintro e w2 ⟨rfl, hb2⟩
    have L2 := HL1.out.after hb2
    have hbb2 := below_after hbb hb2
    have Hz2 : w1.heap.size ≤ w2.heap.size := hb2.size
    have HL2 := Lib.hid L2
    clear c0 f0 c1 f1 c2 f2 c3 f3
    obtain ⟨c0, f0, c1, f1, c2, f2, c3, f3, -⟩ := L2.rules
    clear L2
    go_wp2_with fail
    refine (cloneH_any m _ A c os _ (Hr.out.below (by decide) hbb2)).mono ?_
    rintro e w3 ⟨u, vs, rfl, hsep, -, hb3⟩
    obtain ⟨A2, c2', rfl⟩ := own_form hsep.row
    have L3 := HL2.out.after hb3
    have hbb3 := below_after hbb2 hb3
    have Hz3 : w2.heap.size ≤ w3.heap.size := hb3.size
    have HL3 := Lib.hid L3
    have Hsep := Lib.hid hsep
    clear c0 f0 c1 f1 c2 f2 c3 f3
    obtain ⟨c0, f0, c1, f1, c2, f2, c3, f3, -⟩ := L3.rules
    clear L3 hsep
    go_wp2_with fail
    have HL4 := Lib.hid (HL3.out.set2 3 (.int .i64 m) (.slice A2 os.length c2') rfl rfl (by simp <;> omega))
    have Hsep4 := Lib.hid ((Hsep.out.far (a := ⟨w.heap.size, 0, none⟩) (by show w.heap.size < w2.heap.size; omega) (.int .i64 m)).far (a := ⟨w.heap.size, 1, none⟩) (by show w.heap.size < w2.heap.size; omega) (.slice A2 os.length c2'))
    have hbb4 := below_set2 (x := .int .i64 m) (y := .slice A2 os.length c2') (i := 0) (j := 1) hbb3 (Nat.le_refl w.heap.size)
    clear c0 f0 c1 f1 c2 f2 c3 f3 HL3 Hsep hbb3 hbb2 hbb hb1 hb2 hb3 HL1 HL2
    generalize (w3.setCell ⟨w.heap.size, 0, none⟩ (.int .i64 m)).setCell ⟨w.heap.size, 1, none⟩ (.slice A2 os.length c2') = w4 at *
    obtain ⟨c0, f0, c1, f1, c2, f2, c3, f3, -⟩ := HL4.out.rules
    obtain ⟨g, q, cq, y0, z0, rfl, hg, k0, hq, fq0, fq1, k1, k2, ⟨_, hgt⟩, ⟨_, hqt⟩, hsep5⟩ := Hsep4.out.store Hoo.out hj x
    have Hsep5 := Lib.hid hsep5
    clear hsep5
    have nq : q ≠ w.heap.size := by omega
    have ng : g ≠ w.heap.size := by omega
    clear hgt hqt
    refine wp_region_plan [.still [0, 1, 2, 3, 4, 5, 6, 7, 8, 9], .loud 10 []] (by kernel_rfl) (by kernel_rfl) ?_
    refine plan_still ?_
    simp only [pick, List.getElem?_toArray, List.getElem?_cons_succ, List.getElem?_cons_zero]
    repeat still_step
    refine wpStill_nil ?_
    refine plan_loud ?_
    simp only [pick, List.getElem?_toArray, List.getElem?_cons_succ, List.getElem?_cons_zero]
    go_wp2_with fail
    refine ⟨trivial, ?_⟩
    refine plan_end (NoPanic.normal ?_)
    have Hsep6 := Lib.hid Hsep5.out.draw
    have HL6 := Lib.hid (((HL4.out.far (a := ⟨q, j * 2, none⟩) (u := .int .i64 x.k) (fun e he => by simp at he; rcases he with rfl | rfl | rfl | rfl <;> simp <;> omega)).far (a := ⟨q, j * 2 + 1, none⟩) (u := .int .i64 x.n) (fun e he => by simp at he; rcases he with rfl | rfl | rfl | rfl <;> simp <;> omega)).drew)
    have hbb6 : Below w.heap.size w ((w4.setCell ⟨q, j * 2, none⟩ (.int .i64 x.k)).setCell ⟨q, j * 2 + 1, none⟩ (.int .i64 x.n)).drew := ((hbb4.setCell (by show w.heap.size ≤ q; omega) _).setCell (by show w.heap.size ≤ q; omega) _).drew
    clear Hsep4 Hsep5 HL4 hbb4 k0 k1 k2 fq0 fq1
    clear c0 f0 c1 f1 c2 f2 c3 f3
    generalize ((w4.setCell ⟨q, j * 2, none⟩ (.int .i64 x.k)).setCell ⟨q, j * 2 + 1, none⟩ (.int .i64 x.n)).drew = w6 at *
    obtain ⟨c0, f0, c1, f1, c2, f2, c3, f3, -⟩ := HL6.out.rules
    go_wp2_with fail
    have hS := (Hsep6.out.far (a := ⟨w.heap.size + 1 + 1 + 1, 0, none⟩) (by show _ < _; simp only []; omega) (.int .i64 m)).far (a := ⟨w.heap.size + 1 + 1 + 1, 1, none⟩) (by show _ < _; simp only []; omega) (.slice (some ⟨g, 0, none⟩) os.length c2')
    have L7 := HL6.out.set2 0 (.int .i64 m) (.slice (some ⟨g, 0, none⟩) os.length c2') rfl rfl (by simp <;> omega)
    simp only [List.set_cons_succ, List.set_cons_zero] at L7
    obtain ⟨c0', f0', -⟩ := L7.rules
    have hl := setOs_len os i j x
    rw [← hl] at hS
    refine bodyPost_ret (v := _) ?_ rfl ⟨.agg #[.int .i64 m, .slice (some ⟨g, 0, none⟩) os.length c2'], rfl, ?_, below_set2 hbb6 (by omega)⟩
    · simp [results, Try.results18, go_sem, c0']
    · rw [← hl]
      exact RdH.of_sep hS (by rw [hl]; exact H3) (by omega)
  · have eH : setH ⟨m, os⟩ v f x = ⟨0, []⟩ := if_neg he
    unfold SetD
    rw [eH]
    have hk : ∃ (k : Int) (r : Int), setE ⟨m, os⟩ v f x = r ∧ checkN ⟨m, os⟩ [v, x] = k ∧ ((k = 8 ∧ r = 8) ∨ (k = 0 ∧ objectE os v f = r ∧ r ≠ 0 ∧ (v.k = 2 → 0 ≤ v.n ∧ v.n < os.length))) := by
      cases hp : hpB ⟨m, os⟩ [v, x]
      · exact ⟨8, 8, by simp [setE, hp], by simp [checkN, hp], .inl ⟨rfl, rfl⟩⟩
      · have h2 : setE ⟨m, os⟩ v f x = objectE os v f := by simp [setE, hp]
        exact ⟨0, _, h2, by simp [checkN, hp], .inr ⟨rfl, rfl, by rw [← h2]; exact he, fun hk => valB_ref (by simp [hpB] at hp; exact hp.2.1) hk⟩⟩
    obtain ⟨k, r, e1, hc, hk⟩ := hk
    rw [e1]
    have Hc := Lib.hid hc
    clear he eH e1 hc
    rcases hk with ⟨rfl, rfl⟩ | ⟨rfl, hk, hr0, hval⟩
    · go_enter Try.func18, Try.ntmps18
      go_wp2_with fail
      refine (check_is m _ _ A _ c 2 os [v, x] _ _ Hc (Hr.out.below (by decide) HB.out) (rd_two (blk_at (by simp)))).mono ?_
      rintro e w1 ⟨rfl, hb1⟩
      have L1 := Hl0.out.after hb1
      have hbb := below_after HB.out hb1
      have HL1 := Lib.hid L1
      obtain ⟨c0, f0, c1, f1, c2, f2, c3, f3, -⟩ := L1.rules
      clear L1
      go_wp2
      have L2 := HL1.out.set2 0 (.int .i64 0) (.slice none 0 0) rfl rfl (by simp <;> omega)
      obtain ⟨c0', -⟩ := L2.rules
      refine bodyPost_ret (v := _) ?_ rfl ⟨.agg #[.int .i64 0, .slice none 0 0], rfl, .zero, below_set2 hbb (by omega)⟩
      simp [results, Try.results18, go_sem, c0']
    · have Hk := Lib.hid hk
      have Hval := Lib.hid hval
      have hne : (r != 0) = true := by simpa using hr0
      clear hk hval hr0
      go_enter Try.func18, Try.ntmps18
      go_wp2_with fail
      refine (check_is m _ _ A _ c 2 os [v, x] _ _ Hc (Hr.out.below (by decide) HB.out) (rd_two (blk_at (by simp)))).mono ?_
      rintro e w1 ⟨rfl, hb1⟩
      have L1 := Hl0.out.after hb1
      have hbb := below_after HB.out hb1
      have HL1 := Lib.hid L1
      obtain ⟨c0, f0, c1, f1, c2, f2, c3, f3, -⟩ := L1.rules
      clear L1
      go_wp2_with fail
      refine (object_is m _ A c os v f _ r Hk Hval.out (Hr.out.below (by decide) hbb)).mono ?_
      rintro e w2 ⟨rfl, hb2⟩
      have hbb2 := below_after hbb hb2
      have HL2 := Lib.hid (HL1.out.after hb2)
      clear c0 f0 c1 f1 c2 f2 c3 f3
      obtain ⟨c0, f0, c1, f1, c2, f2, c3, f3, -⟩ := HL2.out.rules
      go_wp2
      have L3 := HL2.out.set2 0 (.int .i64 0) (.slice none 0 0) rfl rfl (by simp <;> omega)
      obtain ⟨c0', -⟩ := L3.rules
      refine bodyPost_ret (v := _) ?_ rfl ⟨.agg #[.int .i64 0, .slice none 0 0], rfl, .zero, below_set2 hbb2 (by omega)⟩
      simp [results, Try.results18, go_sem, c0']
end Go.Proofs.Ytabcjdalifhpdaa
