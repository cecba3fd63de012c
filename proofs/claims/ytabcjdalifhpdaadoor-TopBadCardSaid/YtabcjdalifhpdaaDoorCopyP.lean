/- The walk of code.Copy: the same program, in memory of its own. No condition beside what is read. -/
import Derived.Test.YtabcjdalifhpdaaDoorCloneN
import Derived.Deep.RegionLaw
import Derived.Deep.RegionWith
namespace Go.Proofs.YtabcjdalifhpdaaDoor
open Go.RowKit
def CopiedO (w : World) (ps : List (List Ins)) (en : Ending) (w' : World) : Prop := ∃ v css, en = .returned (.agg #[v]) ∧ Held (slE insE (by decide)) w' (fun b => w.heap.size ≤ b ∧ v.ownBlock ≠ some b) css ps ∧ w'.ownsRow w.heap.size 43 1 v ps.length css.flatten ∧ ps.length * 24 ≤ 140737488355328 ∧ Below w.heap.size w w'
def CopiedP (w : World) (ps : List (List Ins)) (en : Ending) (w' : World) : Prop := ∃ v, en = .returned v ∧ RdPg w' (fun b => w.heap.size ≤ b) v ps ∧ Below w.heap.size w w'
theorem infoP : (Tryd.prog.info? 43).map (fun i => (i.zero, i.size, i.bytes)) = some (some (.slice none 0 0), 1, 24) := by kernel_rfl
set_option maxRecDepth 100000 in
set_option maxHeartbeats 2000000 in
theorem copyO_any (S : Nat → Prop) (A : Option Addr) (c : Nat) (ps : List (List Ins)) (w : World) (hr : RdSl (slE insE (by decide)) w S (.slice A ps.length c) ps) :
  Calls Tryd.prog 23 #[.agg #[.slice A ps.length c]] w (CopiedO w ps) := by
 obtain ⟨-, h1, h2, h3⟩ := hr.lims;obtain ⟨i0, hi0, hz0, hz1, hz2⟩ := info_parts infoP;have H3 : ps.length * 24 ≤ 140737488355328 := h3;have Hr := Lib.hid hr;clear hr h3;go_enter Tryd.func23, Tryd.ntmps23
 go_wp2
 go_loopw [5, 10] (fun _ i wr => ∃ (k : Nat) (v : Value) (css : List (List Value)), k ≤ ps.length ∧ i = .int .i64 k ∧ wr.heap[w.heap.size + 1]? = some (.cells #[.slice none 0 0] 26 (0, 0)) ∧
   wr.heap[w.heap.size + 1 + 1]? = some (.cells #[v] 26 (0, 0)) ∧ Held (slE insE (by decide)) wr (fun b => w.heap.size + 1 + 1 < b ∧ v.ownBlock ≠ some b) css (ps.take k) ∧
   wr.ownsRow (w.heap.size + 1 + 1 + 1) 43 1 v k css.flatten ∧ Below w.heap.size w wr ∧ w.heap.size + 1 + 1 < wr.heap.size) (fun _ i _ => ps.length - (intOf i).toNat)
 case atStart =>
  exact ⟨0, .slice none 0 0, [], by omega, rfl, blk_old (blk_at (by simp)), blk_at (by simp), Held.nil, ⟨rfl, .inl ⟨rfl, rfl⟩⟩, (((Below.refl _ _).alloc (Nat.le_refl _) _).alloc (by simp) _).alloc (by simp; omega) _, by simp⟩
 case round =>
  obtain ⟨k, v, css, hk, rfl, hq1, hq2, hH, hown, hb, hsz⟩ := hrel;by_cases hlt : k < ps.length
  ·obtain ⟨x, hx⟩ : ∃ x, ps[k]? = some x := ⟨ps[k], List.getElem?_eq_getElem hlt⟩;obtain ⟨b, o, B, d, rfl, _, hbs, g0, hl⟩ := (Hr.out.below (by show 0 < 1; omega) hb).at_s hx;have k0 : wr.cell? ⟨w.heap.size + 1 + 1, 0, none⟩ = some v := cell_of_row wr _ 0 _ _ _ hq2;have f0 : wr.frozen? ⟨w.heap.size + 1 + 1, 0, none⟩ = false := (by simp [World.frozen?, hq2]);have Hq1 := Lib.hid hq1;have Hq2 := Lib.hid hq2;have HH := Lib.hid hH;have Hown := Lib.hid hown;have Hl := Lib.hid hl;have Hx := Lib.hid hx;clear hx hl hown hH hq1 hq2;have i1 : (0 : Int) ≤ (k : Int) := (by omega);have i2 : (k : Int) < (ps.length : Int) := (by omega);go_wp2_with fail;have Hne : Hid (some (w.heap.size + 1 + 1) ≠ v.ownBlock) := fun e => by have := (own_lt Hown.out e.symm).2; omega
   go_region_law (first | (go_simp; go_at_call 29; refine (cloneN_any _ _ _ _ _ (Hl.out.below (by decide) (Below.refl _ _).drew)).mono ?_; rintro e w1 ⟨v1, rfl, hown1, hb1⟩; have k1 : w1.cell? ⟨w.heap.size + 1 + 1, 0, none⟩ = some v := (hb1.cell (p := ⟨w.heap.size + 1 + 1, 0, none⟩) (by simp; omega)).trans k0; have f1 : w1.frozen? ⟨w.heap.size + 1 + 1, 0, none⟩ = false := (hb1.frozen (p := ⟨w.heap.size + 1 + 1, 0, none⟩) (by simp; omega)).trans f0; obtain ⟨A1, c1, hv1⟩ := hown1.form; subst hv1; have hs1 : wr.heap.size ≤ w1.heap.size := hb1.size; have hs2 : w.heap.size + 1 + 1 < w1.heap.size := (by omega); have Hown1 := Lib.hid hown1; clear hown1) | (refine step_append_lies _ (by rfl) _ _ _ (by rfl) (w.heap.size + 1 + 1 + 1) 43 i0 _ 1 24 Tryd.underlying24 hi0 hz0 hz1 hz2 rfl (by omega) v k css.flatten (by rfl) ((own_below (w := wr.drew) Hown.out hb1).alloc _) ⟨w1.heap.size, 0, none⟩ 1 1 [.slice A1 x.length c1] (by rfl) (by rfl) (World.news_of_block (cs := #[.slice A1 x.length c1]) (t := 43) (fr := (0, 0)) (heap_alloc_new w1 _)) (by simp [Value.oneCell']) (by omega) (by unfold maxLen; omega) (by omega) (by simp; omega) (w1.heap.size + 1) (by simp) ?_; intro gg cap w2 hown2 hgrow hat hlt2; have hbl : w2.heap[w.heap.size + 1 + 1]? = w1.heap[w.heap.size + 1 + 1]? := (hgrow.block _ (by simp; omega) Hne.out).trans (Below.heap_alloc _ _ _ (by omega)); have g1 : w2.cell? ⟨w.heap.size + 1 + 1, 0, none⟩ = some v := (World.cell?_of_block (w := w1) (a := ⟨w.heap.size + 1 + 1, 0, none⟩) hbl).trans k1; have g2 : w2.frozen? ⟨w.heap.size + 1 + 1, 0, none⟩ = false := (World.frozen?_of_block (w := w1) (a := ⟨w.heap.size + 1 + 1, 0, none⟩) hbl).trans f1; have Hbl := Lib.hid hbl; clear hbl; have Hgrow := Lib.hid hgrow; clear hgrow; have Hown2 := Lib.hid hown2; clear hown2))
   all_goals
    go_wp2
    have hb1' : Below w.heap.size w w1 := hb.drew.trans (hb1.mono (by simp; omega));have hb2 : Below w.heap.size w w2 := (hb1'.alloc (by omega) _).grown Hgrow.out (by simp; omega) (fun g hg => by have := (own_lt Hown.out hg).2; omega);have hz2 : w1.heap.size + 1 ≤ w2.heap.size := (by have := Hgrow.out.size; simpa using this);have hkeep : ∀ b, b < wr.heap.size → v.ownBlock ≠ some b → b ≠ w.heap.size + 1 + 1 → (w2.setCell ⟨w.heap.size + 1 + 1, 0, none⟩ (.slice (some ⟨gg, 0, none⟩) (k + 1) cap)).heap[b]? = wr.heap[b]? := fun b hb' hne hne2 =>
     (Below.heap_setCell _ _ _ _ hne2).trans ((Hgrow.out.block b (by simp; omega) (fun e => hne e.symm)).trans ((Below.heap_alloc _ _ _ (by omega)).trans (hb1.block b hb')))
    have hq2 : w2.heap[w.heap.size + 1 + 1]? = some (.cells #[v] 26 (0, 0)) := (Hbl.out.trans (hb1.block _ (by simp; omega))).trans Hq2.out;have hgg : ∀ b, b < wr.heap.size → v.ownBlock ≠ some b → gg ≠ b := fun b hb' hne e => by
     rcases hat with h | h
     ·exact hne (by rw [h, e])
     ·omega
    go_roundw
    case rel =>
     refine ⟨k + 1, .slice (some ⟨gg, 0, none⟩) (k + 1) cap, css ++ [[.slice A1 x.length c1]], by omega, by go_num, (hkeep (w.heap.size + 1) (by omega) (fun e => by have := (own_lt Hown.out e).2; omega) (by omega)).trans Hq1.out, blk_set hq2 _, ?_, ?_, hb2.setCell (by show w.heap.size ≤ w.heap.size + 1 + 1; omega) _, by show w.heap.size + 1 + 1 < (w2.setCell _ _).heap.size; simp only [World.setCell, Array.size_modify]; omega⟩
     ·rw [List.take_add_one, Hx.out];refine (HH.out.keep (fun b hb' hS => ⟨⟨hS.1, fun e => hgg b hb' hS.2 (by simpa [Value.ownBlock] using e)⟩, hkeep b hb' hS.2 (by have h : w.heap.size + 1 + 1 < b := hS.1; omega)⟩)).append (Held.single rfl ⟨_, rfl, ?_⟩);have h1 := (Hown1.out.flat (S' := fun _ => False) (fun _ _ _ _ h => h)).rd;refine h1.keep (by decide) (fun b hb' hS => ?_);have hS' : wr.heap.size ≤ b := hS.resolve_left id;have hown : v.ownBlock ≠ some b := fun e => by have := (own_lt Hown.out e).1; omega
      refine ⟨⟨by omega, fun e => ?_⟩, (Below.heap_setCell _ _ _ _ (by simp; omega)).trans ((Hgrow.out.block b (by simp; omega) (fun e => hown e.symm)).trans (Below.heap_alloc _ _ _ hb'))⟩;have e' : gg = b := (by simpa [Value.ownBlock] using e);rcases hat with h | h
      ·exact hown (by rw [h, e'])
      ·omega
     ·have := ownsRow_setCell_below (a := ⟨w.heap.size + 1 + 1, 0, none⟩) Hown2.out (by simp) (.slice (some ⟨gg, 0, none⟩) (k + 1) cap);simpa using this
    case measure => simp [intOf]; omega
  ·have hx : ps.take k = ps := List.take_of_length_le (by omega);have hkk : k = ps.length := (by omega);rw [hx] at hH;have hv : ∃ A' c', v = .slice A' k c' := by
    rcases hown.2 with ⟨h, h0⟩ | ⟨g, cap, _, h, _⟩
    ·exact ⟨none, 0, by rw [h, h0]⟩
    ·exact ⟨_, cap, h⟩
   obtain ⟨A', c', rfl⟩ := hv;have k0 : wr.cell? ⟨w.heap.size + 1 + 1, 0, none⟩ = some (.slice A' k c') := cell_of_row wr _ 0 _ _ _ hq2;have k1 : wr.cell? ⟨w.heap.size + 1, 0, none⟩ = some (.slice none 0 0) := cell_of_row wr _ 0 _ _ _ hq1;have f1 : wr.frozen? ⟨w.heap.size + 1, 0, none⟩ = false := (by simp [World.frozen?, hq1]);have k2 : (wr.setCell ⟨w.heap.size + 1, 0, none⟩ (.slice A' k c')).cell? ⟨w.heap.size + 1, 0, none⟩ = some (.slice A' k c') := cell_of_row _ _ 0 _ _ _ (blk_set hq1 _);have K2 := Lib.hid k2;have HH := Lib.hid hH;have Hown := Lib.hid hown;have Hkk := Lib.hid hkk;clear hx hkk hH hown hq1 hq2 k2;go_wp2
   refine bodyPost_ret (v := .agg #[.slice A' k c']) (by simp [results, Tryd.results23, go_sem, K2.out]) rfl ⟨_, css, rfl, HH.out.keep (fun b hb' hS => ?_), ?_, H3, hb.setCell (by simp) _⟩
   ·have h' : w.heap.size + 1 + 1 < b := hS.1;exact ⟨⟨by omega, hS.2⟩, Below.heap_setCell _ _ _ _ (by simp; omega)⟩
   ·have ho := Hown.out;rw [Hkk.out] at ho ⊢;exact own_keep ho (by omega) (fun b hb' => Below.heap_setCell _ _ _ _ (by have := (own_lt ho hb').2; simp; omega))
theorem copyP_any (S : Nat → Prop) (A : Option Addr) (c : Nat) (ps : List (List Ins)) (w : World) (hr : RdSl (slE insE (by decide)) w S (.slice A ps.length c) ps) :
  Calls Tryd.prog 23 #[.agg #[.slice A ps.length c]] w (CopiedP w ps) := by
 refine (copyO_any S A c ps w hr).mono ?_;rintro en w' ⟨v, css, rfl, hH, hown, hs, hb⟩;exact ⟨_, rfl, ⟨_, rfl, (OwnSl.rd (E := slE insE (by decide)) (S := fun b => w.heap.size ≤ b ∧ v.ownBlock ≠ some b) ⟨css, hH, hown, hs⟩).keep (by show 0 < 1; omega) (fun b _ h => ⟨h.elim (fun h => h.1) id, rfl⟩)⟩, hb⟩
end Go.Proofs.YtabcjdalifhpdaaDoor
