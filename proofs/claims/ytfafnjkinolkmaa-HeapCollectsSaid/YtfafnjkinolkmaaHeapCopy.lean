/- The walk of the document's copy of a heap: the same heap, each object's fields in a row of their own. No condition beside what is read. -/
import Derived.Test.YtfafnjkinolkmaaSep
import Derived.Test.YtfafnjkinolkmaaValues
import Derived.Test.YtfafnjkinolkmaaRegion
namespace Go.Proofs.Ytfafnjkinolkmaa
open Go.RowKit

set_option maxRecDepth 100000 in
set_option maxHeartbeats 4000000 in
theorem heapCopy_any (m : Int) (S : Nat → Prop) (A : Option Addr) (c : Nat) (os : List Ob) (w : World) (hr : RdSl obE w S (.slice A os.length c) os) :
    Calls Try.prog 16 #[.agg #[.int .i64 m, .slice A os.length c]] w (ClonedH w m os) := by
  obtain ⟨-, h1, h2, h3⟩ := hr.lims
  obtain ⟨i0, hi0, hz0, hz1, hz2⟩ := info_parts infoO
  have H3 : os.length * 32 ≤ 140737488355328 := h3
  have Hr := Lib.hid hr
  clear hr h3
  go_enter Try.func16, Try.ntmps16
  go_wp2
  go_loopw [4] (fun i wr => ∃ (k : Nat) (v : Value) (vs : List Value), k ≤ os.length ∧ i = .int .i64 k ∧ SepTo wr (fun _ => False) (w.heap.size + 1 + 1 + 1) v (os.take k) vs k ∧
      wr.heap[w.heap.size]? = some (.cells #[.int .i64 m, .slice A os.length c] 26 (0, 0)) ∧ wr.heap[w.heap.size + 1]? = some (.cells #[.int .i64 0, .slice none 0 0] 26 (0, 0)) ∧
      wr.heap[w.heap.size + 1 + 1]? = some (.cells #[.int .i64 m, v] 26 (0, 0)) ∧ Below w.heap.size w wr ∧ w.heap.size + 1 + 1 < wr.heap.size) (fun i _ => os.length - (intOf i).toNat)
  case atStart =>
    exact ⟨0, .slice none 0 0, [], by omega, rfl, ⟨rfl, ⟨rfl, .inl ⟨rfl, rfl⟩⟩, fun i o u h => by omega, fun i o u _ h => by simp at h, fun i j u u' b h => by omega⟩, blk_old (blk_old (blk_at rfl)), blk_old (blk_at (by simp)), blk_at (by simp),
      (((Below.refl _ _).alloc (Nat.le_refl _) _).alloc (by simp) _).alloc (by simp; omega) _, by simp⟩
  case round =>
    obtain ⟨k, v, vs, hk, rfl, hsep, hq0, hq1, hq2, hb, hsz⟩ := hrel
    have htl : (os.take k).length = k := by simp; omega
    by_cases hlt : k < os.length
    · obtain ⟨x, hx⟩ : ∃ x, os[k]? = some x := ⟨os[k], List.getElem?_eq_getElem hlt⟩
      obtain ⟨b, o, B, d, rfl, _, hbs, g0, g1, hl⟩ := (Hr.out.below (by decide) hb).at_o hx
      have k1 : wr.cell? ⟨w.heap.size, 1, none⟩ = some (.slice (some ⟨b, o, none⟩) os.length c) := cell_of_row wr _ 1 _ _ _ hq0
      have k2 : wr.cell? ⟨w.heap.size + 1 + 1, 1, none⟩ = some v := cell_of_row wr _ 1 _ _ _ hq2
      have f2 : wr.frozen? ⟨w.heap.size + 1 + 1, 1, none⟩ = false := by simp [World.frozen?, hq2]
      have hrow := hsep.row
      rw [htl] at hrow
      have Hq0 := Lib.hid hq0
      have Hq1 := Lib.hid hq1
      have Hq2 := Lib.hid hq2
      have Hsep := Lib.hid hsep
      have Hown := Lib.hid hrow
      have Hl := Lib.hid hl
      have Hx := Lib.hid hx
      have Htl := Lib.hid htl
      have Hne : Hid (v.ownBlock ≠ some (w.heap.size + 1 + 1)) := fun e => by have := (own_lt hrow e).2; omega
      clear hx hl hrow hsep hq0 hq1 hq2 htl
      have i1 : (0 : Int) ≤ (k : Int) := by omega
      have i2 : (k : Int) < (os.length : Int) := by omega
      go_wp2_with fail
      refine wp_region_plan [.still [0, 1, 2, 3, 4, 5, 6, 7, 9, 10, 11, 12, 13, 14], .loud 8 [0, 1, 9, 10, 11, 12, 13, 14], .still [15], .loud 16 [0, 1], .loud 17 [], .still [18], .loud 19 []] (by kernel_rfl) (by kernel_rfl) ?_
      refine plan_still ?_
      simp only [pick, List.getElem?_toArray, List.getElem?_cons_succ, List.getElem?_cons_zero]
      repeat still_step
      refine wpStill_nil ?_
      refine plan_loud ?_
      simp only [pick, List.getElem?_toArray, List.getElem?_cons_succ, List.getElem?_cons_zero]
      go_wp2_with fail
      refine (values_any _ _ _ _ _ (Hl.out.below (by decide) (Below.refl _ _).drew)).mono ?_
      rintro e w1 ⟨v1, rfl, hown1, hb1⟩
      have z1 : w1.cell? ⟨w.heap.size, 1, none⟩ = some (.slice (some ⟨b, o, none⟩) os.length c) := (hb1.cell (p := ⟨w.heap.size, 1, none⟩) (by simp; omega)).trans k1
      have z2 : w1.cell? ⟨w.heap.size + 1 + 1, 1, none⟩ = some v := (hb1.cell (p := ⟨w.heap.size + 1 + 1, 1, none⟩) (by simp; omega)).trans k2
      have z3 : w1.cell? ⟨b, o + k * 2 + 1, none⟩ = some (.bool x.dead) := (hb1.cell (p := ⟨b, o + k * 2 + 1, none⟩) hbs).trans g1
      have f3 : w1.frozen? ⟨w.heap.size + 1 + 1, 1, none⟩ = false := (hb1.frozen (p := ⟨w.heap.size + 1 + 1, 1, none⟩) (by simp; omega)).trans f2
      obtain ⟨A1, c1, hv1⟩ := hown1.form
      subst hv1
      have hs1 : wr.heap.size ≤ w1.heap.size := hb1.size
      have hs2 : w.heap.size + 1 + 1 < w1.heap.size := by omega
      have Hown1 := Lib.hid hown1
      clear hown1
      go_wp2_with fail
      refine ⟨?_, ?_⟩
      · simp only [Again, pick, List.getElem?_toArray, List.getElem?_cons_succ, List.getElem?_cons_zero]
        refine ⟨?_, ?_, ?_, ?_, ?_, ?_, ?_, ?_, trivial⟩
        all_goals (still_step; exact wpStill_nil rfl)
      refine plan_still ?_
      simp only [pick, List.getElem?_toArray, List.getElem?_cons_succ, List.getElem?_cons_zero]
      repeat still_step
      refine wpStill_nil ?_
      refine plan_loud ?_
      simp only [pick, List.getElem?_toArray, List.getElem?_cons_succ, List.getElem?_cons_zero]
      go_wp2_with fail
      refine ⟨?_, ?_⟩
      · simp only [Again, pick, List.getElem?_toArray, List.getElem?_cons_succ, List.getElem?_cons_zero]
        refine ⟨?_, ?_, trivial⟩
        all_goals (still_step; exact wpStill_nil rfl)
      refine plan_loud ?_
      simp only [pick, List.getElem?_toArray, List.getElem?_cons_succ, List.getElem?_cons_zero]
      go_wp2_with (at_builtin; refine wpList_append_own _ rfl (.tmp 16) (.tmp 31) _ rfl (w.heap.size + 1 + 1 + 1) 41 i0 _ 2 32 Try.underlying24 hi0 hz0 hz1 hz2 rfl (by omega) v k (rowsOf vs (os.take k)).flatten rfl ((own_below (w := wr.drew) Hown.out hb1).alloc _) ⟨w1.heap.size, 0, none⟩ 1 1 [.slice A1 x.fields.length c1, .bool x.dead] rfl rfl ?c1 ?c2 ?c3 ?c4 ?c5 ?next)
      case c1 => exact World.news_of_block (cs := #[.slice A1 x.fields.length c1, .bool x.dead]) (t := 41) (fr := (0, 0)) (heap_alloc_new w1 _)
      case c2 => simp [Value.oneCell']
      case c3 => unfold maxLen; omega
      case c4 => omega
      case c5 => simp; omega
      case next =>
        intro v' w2 hown2 hgrow _
        obtain ⟨A2, c2, rfl⟩ := own_form hown2
        have hbl : w2.heap[w.heap.size + 1 + 1]? = w1.heap[w.heap.size + 1 + 1]? := (hgrow.block _ (by simp; omega) Hne.out.symm).trans (Below.heap_alloc _ _ _ (by omega))
        have y1 : w2.cell? ⟨w.heap.size + 1 + 1, 1, none⟩ = some v := (World.cell?_of_block (w := w1) (a := ⟨w.heap.size + 1 + 1, 1, none⟩) hbl).trans z2
        have y2 : w2.frozen? ⟨w.heap.size + 1 + 1, 1, none⟩ = false := (World.frozen?_of_block (w := w1) (a := ⟨w.heap.size + 1 + 1, 1, none⟩) hbl).trans f3
        have Hbl := Lib.hid hbl
        have Hgrow := Lib.hid hgrow
        have Hown2 := Lib.hid hown2
        clear hbl hgrow hown2
        go_wp2_with fail
        refine ⟨trivial, ?_⟩
        refine plan_still ?_
        simp only [pick, List.getElem?_toArray, List.getElem?_cons_succ, List.getElem?_cons_zero]
        repeat still_step
        refine wpStill_nil ?_
        refine plan_loud ?_
        simp only [pick, List.getElem?_toArray, List.getElem?_cons_succ, List.getElem?_cons_zero]
        go_wp2_with fail
        refine ⟨trivial, ?_⟩
        refine plan_end (NoPanic.normal ?_)
        go_wp2
        have hb1' : Below w.heap.size w w1 := hb.drew.trans (hb1.mono (by simp; omega))
        have hb2 : Below w.heap.size w w2 := (hb1'.alloc (by omega) _).grown Hgrow.out (by simp; omega) (fun g hg => by have := (own_lt Hown.out hg).2; omega)
        have hz2 : w1.heap.size + 1 ≤ w2.heap.size := by have := Hgrow.out.size; simpa using this
        have hkeep : ∀ b, b < wr.heap.size → v.ownBlock ≠ some b → b ≠ w.heap.size + 1 + 1 → (w2.setCell ⟨w.heap.size + 1 + 1, 1, none⟩ (.slice A2 (k + 1) c2)).heap[b]? = wr.heap[b]? := fun b hb' hne hne2 =>
          (Below.heap_setCell _ _ _ _ hne2).trans ((Hgrow.out.block b (by simp; omega) hne.symm).trans ((Below.heap_alloc _ _ _ (by omega)).trans (hb1.block b hb')))
        have hq2 : w2.heap[w.heap.size + 1 + 1]? = some (.cells #[.int .i64 m, v] 26 (0, 0)) := (Hbl.out.trans (hb1.block _ (by simp; omega))).trans Hq2.out
        go_roundw
        case rel =>
          refine ⟨k + 1, .slice A2 (k + 1) c2, vs ++ [.slice A1 x.fields.length c1], by omega, by go_num, ?_, (hkeep _ (by omega) (fun e => by have := (own_lt Hown.out e).2; omega) (by omega)).trans Hq0.out, (hkeep _ (by omega) (fun e => by have := (own_lt Hown.out e).2; omega) (by omega)).trans Hq1.out, blk_set hq2 _, hb2.setCell (by show w.heap.size ≤ w.heap.size + 1 + 1; omega) _, by show w.heap.size + 1 + 1 < (w2.setCell _ _).heap.size; simp only [World.setCell, Array.size_modify]; omega⟩
          have hs' : SepTo (w2.setCell ⟨w.heap.size + 1 + 1, 1, none⟩ (.slice A2 (k + 1) c2)) (fun _ => False) (w.heap.size + 1 + 1 + 1) (.slice A2 (k + 1) c2) (os.take k ++ [x]) (vs ++ [.slice A1 x.fields.length c1]) (os.take k ++ [x]).length := by
            have hS := Hsep.out
            have hS' : SepTo wr (fun _ => False) (w.heap.size + 1 + 1 + 1) v (os.take k) vs (os.take k).length := by rw [Htl.out]; exact hS
            have ho := Hown1.out
            refine SepTo.keep (w := w2) (Nat.le_refl _) (fun b hb' _ => Below.heap_setCell _ _ _ _ (by show b ≠ w.heap.size + 1 + 1; omega)) (SepTo.snoc hS' ?_ (fun b hb' hne => ?_) ?_ (fun b hb' => (ho.lt hb').2))
            · rw [Htl.out]; exact Hown2.out
            · exact (Hgrow.out.block b (by simp; omega) hne.symm).trans ((Below.heap_alloc _ _ _ (by omega)).trans (hb1.block b hb'))
            · refine ho.keep (by simp; omega) (fun b hb' => ?_) (fun _ _ h => h.elim)
              have h1 := ho.lt hb'
              exact (Hgrow.out.block b (by simp; omega) (fun e => by have := (own_lt Hown.out e.symm).1; have h2 : wr.heap.size ≤ b := h1.2; omega)).trans (Below.heap_alloc _ _ _ h1.1)
          rw [List.take_add_one, Hx.out]
          have hl : (os.take k ++ [x]).length = k + 1 := by simp [Htl.out]
          rw [hl] at hs'
          exact hs'
        case measure => simp [intOf]; omega
    · have hx : os.take k = os := List.take_of_length_le (by omega)
      have hkk : k = os.length := by omega
      rw [hx] at hsep
      subst hkk
      obtain ⟨A', c', rfl⟩ := own_form hsep.row
      have k0 : wr.cell? ⟨w.heap.size + 1 + 1, 0, none⟩ = some (.int .i64 m) := cell_of_row wr _ 0 _ _ _ hq2
      have k1 : wr.cell? ⟨w.heap.size + 1 + 1, 1, none⟩ = some (.slice A' os.length c') := cell_of_row wr _ 1 _ _ _ hq2
      have k4 : wr.cell? ⟨w.heap.size, 1, none⟩ = some (.slice A os.length c) := cell_of_row wr _ 1 _ _ _ hq0
      have k2 : wr.cell? ⟨w.heap.size + 1, 0, none⟩ = some (.int .i64 0) := cell_of_row wr _ 0 _ _ _ hq1
      have k3 : wr.cell? ⟨w.heap.size + 1, 1, none⟩ = some (.slice none 0 0) := cell_of_row wr _ 1 _ _ _ hq1
      have f2 : wr.frozen? ⟨w.heap.size + 1, 0, none⟩ = false := by simp [World.frozen?, hq1]
      have f3 : wr.frozen? ⟨w.heap.size + 1, 1, none⟩ = false := by simp [World.frozen?, hq1]
      have hr2 := blk_set (blk_set hq1 (i := 0) (.int .i64 m)) (i := 1) (.slice A' os.length c')
      have Hr2 := Lib.hid hr2
      have Hsep := Lib.hid hsep
      clear hx hsep hq0 hq1 hq2 hr2
      go_wp2
      refine bodyPost_ret (v := .agg #[.int .i64 m, .slice A' os.length c']) (by simp [results, Try.results16, go_sem, (cell_of_row _ _ 0 _ _ _ Hr2.out : _ = _), (cell_of_row _ _ 1 _ _ _ Hr2.out : _ = _)]) rfl
        ⟨_, vs, rfl, Hsep.out.keep (by omega) (fun b hb' _ => (Below.heap_setCell _ _ _ _ (by show b ≠ w.heap.size + 1; omega)).trans (Below.heap_setCell _ _ _ _ (by show b ≠ w.heap.size + 1; omega))), H3, (hb.setCell (by simp) _).setCell (by simp) _⟩

end Go.Proofs.Ytfafnjkinolkmaa
