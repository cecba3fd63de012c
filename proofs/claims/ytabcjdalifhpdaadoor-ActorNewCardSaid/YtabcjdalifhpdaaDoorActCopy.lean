/- The walk of actor.Copy: the same world, in memory of its own. No condition beside what is read. -/
import Derived.Test.YtabcjdalifhpdaaDoorLoc
import Derived.Test.YtabcjdalifhpdaaDoorCloneH
import Derived.Maps.AppendAt
namespace Go.Proofs.YtabcjdalifhpdaaDoor
open Go.RowKit

theorem infoA : (Tryd.prog.info? 54).map (fun i => (i.zero, i.size, i.bytes)) = some (some (.agg #[.int .i64 0, .int .i64 0, .int .i64 0, .slice none 0 0, .slice none 0 0, .int .i64 0, .slice none 0 0, .int .i64 0]), 8, 112) := by kernel_rfl
/-- The cells of an actor. -/
def acCells (x : Ac) (ho vr vb : Value) : List Value := [.int .i64 x.kind, .int .i64 x.parent, .int .i64 x.heap.most, ho, vr, .int .i64 x.pc, vb, .int .i64 x.fin]
/-- What actor.Copy leaves. -/
def CopiedA (w : World) (acs : List Ac) (ps : List Td) (en : Ending) (w' : World) : Prop :=
  ∃ A c B d, en = .returned (.agg #[.slice A acs.length c, .slice B ps.length d]) ∧ RdSl acE w' (fun b => w.heap.size ≤ b) (.slice A acs.length c) acs ∧ RdSl tdE w' (fun b => w.heap.size ≤ b) (.slice B ps.length d) ps ∧ Below w.heap.size w w'

set_option maxRecDepth 100000 in
set_option maxHeartbeats 4000000 in
theorem actCopy_any (S T : Nat → Prop) (A B : Option Addr) (c d : Nat) (acs : List Ac) (ps : List Td) (w : World) (hr : RdSl acE w S (.slice A acs.length c) acs) (hq : RdSl tdE w T (.slice B ps.length d) ps) :
    Calls Tryd.prog 45 #[.agg #[.slice A acs.length c, .slice B ps.length d]] w (CopiedA w acs ps) := by
  obtain ⟨-, h1, h2, h3⟩ := hr.lims
  obtain ⟨i0, hi0, hz0, hz1, hz2⟩ := info_parts infoA
  have H3 : acs.length * 112 ≤ 140737488355328 := h3
  have hr' : RdSl acE w (fun b => b < w.heap.size) (.slice A acs.length c) acs := hr.keep (by decide) (fun b hb _ => ⟨hb, rfl⟩)
  have Hr := Lib.hid hr'
  have Hq := Lib.hid hq
  have hB : Below w.heap.size w ((w.alloc (.cells #[.slice A acs.length c, .slice B ps.length d] 32)).alloc (.cells #[.slice none 0 0, .slice none 0 0] 32)) := ((Below.refl _ _).alloc (Nat.le_refl _) _).alloc (by simp) _
  have L0 : Locs ((w.alloc (.cells #[.slice A acs.length c, .slice B ps.length d] 32)).alloc (.cells #[.slice none 0 0, .slice none 0 0] 32)) [(w.heap.size + 1, #[.slice none 0 0, .slice none 0 0], 32), (w.heap.size, #[.slice A acs.length c, .slice B ps.length d], 32)] :=
    (Locs.nil.new rfl).new (by simp)
  have HL0 := Lib.hid L0
  clear hr hr' hq h3 L0
  go_enter Tryd.func45, Tryd.ntmps45
  go_wp2_with fail
  refine (cloneT_any _ B d ps _ (Hq.out.below (by decide) hB)).mono ?_
  rintro e w1 ⟨tv, rfl, hown1, hb1⟩
  obtain ⟨B1, d1, rfl⟩ := hown1.form
  have hbb1 := below_after hB hb1
  have HL1 := Lib.hid (HL0.out.after hb1)
  have Hown1 := Lib.hid ((hown1.flat (S' := fun _ => False) (fun _ _ _ _ h => h)).rd.keep (S' := fun b => w.heap.size + 1 < b ∧ b < w1.heap.size) (by decide) (fun b hb hS => ⟨⟨by have := hS.resolve_left id; simp at this; omega, hb⟩, rfl⟩))
  have hz1' : w.heap.size + 1 + 1 ≤ w1.heap.size := by have := hb1.size; simpa using this
  obtain ⟨r0, q0, r1, q1, -⟩ := HL1.out.rules
  have y9 : w.heap.size < w1.heap.size := by omega
  clear hown1 hb1 hB
  go_wp2_with fail
  go_loopw [13] (fun i wr => ∃ (k : Nat) (v : Value) (css : List (List Value)), k ≤ acs.length ∧ i = .int .i64 k ∧ Locs wr [(w1.heap.size, #[v, .slice B1 ps.length d1], 32)] ∧ Held acE wr (fun b => w1.heap.size < b ∧ v.ownBlock ≠ some b) css (acs.take k) ∧
      wr.ownsRow (w1.heap.size + 1) 54 8 v k css.flatten ∧ Below w1.heap.size w1 wr ∧ w1.heap.size < wr.heap.size) (fun i _ => acs.length - (intOf i).toNat)
  case atStart => exact ⟨0, .slice none 0 0, [], by omega, rfl, Locs.nil.new rfl, Held.nil, ⟨rfl, .inl ⟨rfl, rfl⟩⟩, (Below.refl _ _).alloc (Nat.le_refl _) _, by simp⟩
  case round =>
    obtain ⟨k, v, css, hk, rfl, hloc, hH, hown, hb, hz⟩ := hrel
    have hbw := below_after hbb1 hb
    by_cases hlt : k < acs.length
    · obtain ⟨x, hx⟩ : ∃ x, acs[k]? = some x := ⟨acs[k], List.getElem?_eq_getElem hlt⟩
      obtain ⟨b, o, Bo, co, Br, cr, Bb, cb, rfl, _, hbs, y0, y1, y2, y3, y4, y5, y6, y7, ro, rr, rb⟩ := (Hr.out.below (by decide) hbw).at_a hx
      have i1 : (0 : Int) ≤ (k : Int) := by omega
      have i2 : (k : Int) < (acs.length : Int) := by omega
      have HlN := Lib.hid (hloc.new (cs := #[.int .i64 x.kind, .int .i64 x.parent, .int .i64 x.heap.most, .slice Bo x.heap.objs.length co, .slice Br x.regs.length cr, .int .i64 x.pc, .slice Bb x.box.length cb, .int .i64 x.fin]) (t := 54) rfl)
      have hbe : Below wr.heap.size wr (wr.alloc (.cells #[.int .i64 x.kind, .int .i64 x.parent, .int .i64 x.heap.most, .slice Bo x.heap.objs.length co, .slice Br x.regs.length cr, .int .i64 x.pc, .slice Bb x.box.length cb, .int .i64 x.fin] 54)) := (Below.refl _ _).alloc (Nat.le_refl _) _
      have HH := Lib.hid hH
      have Hown := Lib.hid hown
      have Hx := Lib.hid hx
      have Ro := Lib.hid (ro.below (by decide) hbe)
      have Rr := Lib.hid (rr.below (by decide) hbe)
      have Rb := Lib.hid (rb.below (by decide) hbe)
      obtain ⟨r0, q0, r1, q1, -⟩ := HlN.out.rules
      clear hloc hH hown hx ro rr rb
      go_wp2_with fail
      refine wp_region_plan [.still [0, 1, 3, 4, 6, 7], .loud 2 [3, 4, 6, 7], .still [9], .loud 5 [6, 7, 9], .loud 8 [9], .loud 10 [], .still [11], .loud 12 [], .still [13], .loud 14 []] (by kernel_rfl) (by kernel_rfl) ?_
      refine plan_still ?_
      simp only [pick, List.getElem?_toArray, List.getElem?_cons_succ, List.getElem?_cons_zero]
      repeat still_step
      refine wpStill_nil ?_
      refine plan_loud ?_
      simp only [pick, List.getElem?_toArray, List.getElem?_cons_succ, List.getElem?_cons_zero]
      go_wp2_with fail
      have HlA := Lib.hid HlN.out.drew
      have hbA := hb.trans (hbe.mono (by omega)) |>.drew
      have RoA := Lib.hid (Ro.out.below (by decide) (Below.refl _ _).drew)
      have RrA := Lib.hid (Rr.out.below (by decide) (Below.refl _ _).drew)
      have RbA := Lib.hid (Rb.out.below (by decide) (Below.refl _ _).drew)
      have hsA : ∀ b, b < wr.heap.size → ((wr.alloc (.cells #[.int .i64 x.kind, .int .i64 x.parent, .int .i64 x.heap.most, .slice Bo x.heap.objs.length co, .slice Br x.regs.length cr, .int .i64 x.pc, .slice Bb x.box.length cb, .int .i64 x.fin] 54)).drew).heap[b]? = wr.heap[b]? := fun b hb' => Below.heap_alloc _ _ _ hb'
      have hzA : wr.heap.size + 1 ≤ ((wr.alloc (.cells #[.int .i64 x.kind, .int .i64 x.parent, .int .i64 x.heap.most, .slice Bo x.heap.objs.length co, .slice Br x.regs.length cr, .int .i64 x.pc, .slice Bb x.box.length cb, .int .i64 x.fin] 54)).drew).heap.size := by simp [World.drew]
      have HsA := Lib.hid hsA
      clear HlN Ro Rr Rb hbe hsA r0 q0 r1 q1
      generalize (wr.alloc (.cells #[.int .i64 x.kind, .int .i64 x.parent, .int .i64 x.heap.most, .slice Bo x.heap.objs.length co, .slice Br x.regs.length cr, .int .i64 x.pc, .slice Bb x.box.length cb, .int .i64 x.fin] 54)).drew = wA at *
      refine (cloneH_any x.heap.most _ Bo co x.heap.objs wA RoA.out).mono ?_
      rintro e w2 ⟨v2, vs2, rfl, hsep, hs2, hb2⟩
      obtain ⟨A2, c2, rfl⟩ := own_form hsep.row
      have HrO := Lib.hid (hsep.rd hs2)
      have Hl2 := Lib.hid (HlA.out.after hb2)
      have hz2' : wA.heap.size ≤ w2.heap.size := hb2.size
      obtain ⟨r0, q0, r1, q1, -⟩ := Hl2.out.rules
      clear hsep hs2
      go_wp2_with fail
      refine ⟨?_, ?_⟩
      · simp only [Again, pick, List.getElem?_toArray, List.getElem?_cons_succ, List.getElem?_cons_zero]
        refine ⟨?_, ?_, ?_, ?_, trivial⟩
        all_goals (still_step; exact wpStill_nil rfl)
      refine plan_still ?_
      simp only [pick, List.getElem?_toArray, List.getElem?_cons_succ, List.getElem?_cons_zero]
      repeat still_step
      refine wpStill_nil ?_
      refine plan_loud ?_
      simp only [pick, List.getElem?_toArray, List.getElem?_cons_succ, List.getElem?_cons_zero]
      go_wp2_with fail
      refine (cloneV_any _ Br cr x.regs w2 (RrA.out.below (by decide) hb2)).mono ?_
      rintro e w3 ⟨v3, rfl, hown3, hb3⟩
      obtain ⟨A3, c3, rfl⟩ := hown3.form
      have HrR := Lib.hid ((hown3.flat (S' := fun _ => False) (fun _ _ _ _ h => h)).rd)
      have Hl3 := Lib.hid (Hl2.out.after hb3)
      have hz3' : w2.heap.size ≤ w3.heap.size := hb3.size
      clear r0 q0 r1 q1 hown3
      obtain ⟨r0, q0, r1, q1, -⟩ := Hl3.out.rules
      go_wp2_with fail
      refine ⟨?_, ?_⟩
      · simp only [Again, pick, List.getElem?_toArray, List.getElem?_cons_succ, List.getElem?_cons_zero]
        refine ⟨?_, ?_, ?_, trivial⟩
        all_goals (still_step; exact wpStill_nil rfl)
      refine plan_loud ?_
      simp only [pick, List.getElem?_toArray, List.getElem?_cons_succ, List.getElem?_cons_zero]
      go_wp2_with fail
      refine (cloneV_any _ Bb cb x.box w3 ((RbA.out.below (by decide) hb2).below (by decide) hb3)).mono ?_
      rintro e w4 ⟨v4, rfl, hown4, hb4⟩
      obtain ⟨A4, c4, rfl⟩ := hown4.form
      have HrB := Lib.hid ((hown4.flat (S' := fun _ => False) (fun _ _ _ _ h => h)).rd)
      have Hl4 := Lib.hid (Hl3.out.after hb4)
      have hz4' : w3.heap.size ≤ w4.heap.size := hb4.size
      clear r0 q0 r1 q1 hown4
      obtain ⟨r0, q0, r1, q1, -⟩ := Hl4.out.rules
      go_wp2_with fail
      refine ⟨?_, ?_⟩
      · simp only [Again, pick, List.getElem?_toArray, List.getElem?_cons_succ, List.getElem?_cons_zero]
        refine ⟨?_, trivial⟩
        all_goals (still_step; exact wpStill_nil rfl)
      refine plan_loud ?_
      simp only [pick, List.getElem?_toArray, List.getElem?_cons_succ, List.getElem?_cons_zero]
      go_wp2_with fail
      refine ⟨trivial, ?_⟩
      refine plan_still ?_
      simp only [pick, List.getElem?_toArray, List.getElem?_cons_succ, List.getElem?_cons_zero]
      repeat still_step
      refine wpStill_nil ?_
      refine plan_loud ?_
      simp only [pick, List.getElem?_toArray, List.getElem?_cons_succ, List.getElem?_cons_zero]
      go_wp2_with fail
      refine ⟨trivial, ?_⟩
      refine plan_still ?_
      simp only [pick, List.getElem?_toArray, List.getElem?_cons_succ, List.getElem?_cons_zero]
      repeat still_step
      refine wpStill_nil ?_
      refine plan_loud ?_
      simp only [pick, List.getElem?_toArray, List.getElem?_cons_succ, List.getElem?_cons_zero]
      go_wp2_with fail
      refine ⟨trivial, ?_⟩
      refine plan_end (NoPanic.normal ?_)
      have L5 : Locs ((((w4.setCell ⟨wr.heap.size, 2, none⟩ (.int .i64 x.heap.most)).setCell ⟨wr.heap.size, 3, none⟩ (.slice A2 x.heap.objs.length c2)).setCell ⟨wr.heap.size, 4, none⟩ (.slice A3 x.regs.length c3)).setCell ⟨wr.heap.size, 6, none⟩ (.slice A4 x.box.length c4))
          [(wr.heap.size, #[.int .i64 x.kind, .int .i64 x.parent, .int .i64 x.heap.most, .slice A2 x.heap.objs.length c2, .slice A3 x.regs.length c3, .int .i64 x.pc, .slice A4 x.box.length c4, .int .i64 x.fin], 54), (w1.heap.size, #[v, .slice B1 ps.length d1], 32)] :=
        (((Hl4.out.put 0 2 (.int .i64 x.heap.most) rfl (by simp; omega)).put 0 3 (.slice A2 x.heap.objs.length c2) rfl (by simp; omega)).put 0 4 (.slice A3 x.regs.length c3) rfl (by simp; omega)).put 0 6 (.slice A4 x.box.length c4) rfl (by simp; omega)
      have hb5 : ∀ b, b ≠ wr.heap.size → ((((w4.setCell ⟨wr.heap.size, 2, none⟩ (.int .i64 x.heap.most)).setCell ⟨wr.heap.size, 3, none⟩ (.slice A2 x.heap.objs.length c2)).setCell ⟨wr.heap.size, 4, none⟩ (.slice A3 x.regs.length c3)).setCell ⟨wr.heap.size, 6, none⟩ (.slice A4 x.box.length c4)).heap[b]? = w4.heap[b]? := fun b hb' =>
        (Below.heap_setCell _ _ _ _ hb').trans ((Below.heap_setCell _ _ _ _ hb').trans ((Below.heap_setCell _ _ _ _ hb').trans (Below.heap_setCell _ _ _ _ hb')))
      have hz5 : w4.heap.size ≤ ((((w4.setCell ⟨wr.heap.size, 2, none⟩ (.int .i64 x.heap.most)).setCell ⟨wr.heap.size, 3, none⟩ (.slice A2 x.heap.objs.length c2)).setCell ⟨wr.heap.size, 4, none⟩ (.slice A3 x.regs.length c3)).setCell ⟨wr.heap.size, 6, none⟩ (.slice A4 x.box.length c4)).heap.size := by simp [World.setCell]
      have hB5 : Below w1.heap.size w1 ((((w4.setCell ⟨wr.heap.size, 2, none⟩ (.int .i64 x.heap.most)).setCell ⟨wr.heap.size, 3, none⟩ (.slice A2 x.heap.objs.length c2)).setCell ⟨wr.heap.size, 4, none⟩ (.slice A3 x.regs.length c3)).setCell ⟨wr.heap.size, 6, none⟩ (.slice A4 x.box.length c4)) :=
        (((((below_after (below_after (below_after hbA hb2) hb3) hb4).setCell (by show _ ≤ wr.heap.size; omega) _).setCell (by show _ ≤ wr.heap.size; omega) _).setCell (by show _ ≤ wr.heap.size; omega) _).setCell (by show _ ≤ wr.heap.size; omega) _)
      have HL5 := Lib.hid L5
      have Hb5 := Lib.hid hb5
      clear r0 q0 r1 q1 Hl4 Hl3 Hl2 HlA L5 hb5
      generalize (((w4.setCell ⟨wr.heap.size, 2, none⟩ (.int .i64 x.heap.most)).setCell ⟨wr.heap.size, 3, none⟩ (.slice A2 x.heap.objs.length c2)).setCell ⟨wr.heap.size, 4, none⟩ (.slice A3 x.regs.length c3)).setCell ⟨wr.heap.size, 6, none⟩ (.slice A4 x.box.length c4) = w5 at *
      obtain ⟨r0, q0, r1, q1, -⟩ := HL5.out.rules
      have n1 : w1.heap.size < w5.heap.size := by omega
      have hk5 : ∀ b, b < wr.heap.size → w5.heap[b]? = wr.heap[b]? := fun b hb' => (Hb5.out b (by omega)).trans ((hb4.block b (by omega)).trans ((hb3.block b (by omega)).trans ((hb2.block b (by omega)).trans (HsA.out b hb'))))
      have Hk5 := Lib.hid hk5
      have hown5 := own_keep (w' := w5) Hown.out (Nat.le_refl _) (fun b hb' => hk5 b (own_lt Hown.out hb').1)
      have Hown5 := Lib.hid (hown5.alloc (.cells #[.int .i64 x.kind, .int .i64 x.parent, .int .i64 x.heap.most, .slice A2 x.heap.objs.length c2, .slice A3 x.regs.length c3, .int .i64 x.pc, .slice A4 x.box.length c4, .int .i64 x.fin] 54))
      clear hk5 hown5
      go_wp2_with (at_builtin; go_loud (refine wpList_append_own_at _ rfl (.tmp 30) (.tmp 32) _ rfl (w1.heap.size + 1) 54 i0 _ 8 112 Tryd.underlying29 hi0 hz0 hz1 hz2 rfl (by omega) _ k css.flatten rfl Hown5.out ⟨w5.heap.size, 0, none⟩ 1 1 [.int .i64 x.kind, .int .i64 x.parent, .int .i64 x.heap.most, .slice A2 x.heap.objs.length c2, .slice A3 x.regs.length c3, .int .i64 x.pc, .slice A4 x.box.length c4, .int .i64 x.fin] rfl rfl (World.news_of_block (cs := #[.int .i64 x.kind, .int .i64 x.parent, .int .i64 x.heap.most, .slice A2 x.heap.objs.length c2, .slice A3 x.regs.length c3, .int .i64 x.pc, .slice A4 x.box.length c4, .int .i64 x.fin]) (t := 54) (fr := (0, 0)) (heap_alloc_new w5 _)) (by simp [Value.oneCell']) (by unfold maxLen; omega) (by omega) (by simp; omega) ?next))
      case next =>
        intro v6 w6 hown6 hg6 _ hat
        obtain ⟨A6, c6, rfl⟩ := own_form hown6
        have hz6 : w5.heap.size < w6.heap.size := by have := hg6.size; simp at this; omega
        have hat' : ∀ b, b < w5.heap.size → v.ownBlock ≠ some b → (Value.slice A6 (k + 1) c6).ownBlock ≠ some b := fun b hb' hne e => by
          rcases hat with h | h
          · exact hne (h ▸ e)
          · rw [h] at e; injection e with e; (try simp at e); omega
        have hB6 : Below w1.heap.size w1 w6 := (hB5.alloc (by omega) _).grown hg6 (by simp; omega) (fun g hg => by have := (own_lt Hown.out hg).2; omega)
        have hk6 : ∀ b, b < w5.heap.size → v.ownBlock ≠ some b → w6.heap[b]? = w5.heap[b]? := fun b hb' hne => (hg6.block b (by simp; omega) hne.symm).trans (Below.heap_alloc _ _ _ hb')
        have hvlt : ∀ b, v.ownBlock = some b → w1.heap.size + 1 ≤ b ∧ b < wr.heap.size := fun b hb' => ⟨(own_lt Hown.out hb').2, (own_lt Hown.out hb').1⟩
        have L6 := HL5.out.tail.keep (w' := w6) (fun e he => by simp at he; subst he; exact hk6 _ (by omega) (fun e => by have := (hvlt _ e).1; omega))
        have HL6 := Lib.hid L6
        have Hown6 := Lib.hid hown6
        have Hat := Lib.hid hat'
        have Hk6 := Lib.hid hk6
        have Hvlt := Lib.hid hvlt
        clear r0 q0 r1 q1
        obtain ⟨r0, q0, -⟩ := L6.rules
        clear L6 hown6 hat hat' hk6 hvlt hg6
        go_wp2
        have hkeep : ∀ b, b < w5.heap.size → v.ownBlock ≠ some b → b ≠ w1.heap.size → (w6.setCell ⟨w1.heap.size, 0, none⟩ (.slice A6 (k + 1) c6)).heap[b]? = w5.heap[b]? := fun b hb' hne hne2 => (Below.heap_setCell _ _ _ _ hne2).trans (Hk6.out b hb' hne)
        have hnew : ∀ {α : Type} {E : El α} (hs : 0 < E.size) {W : World} {u : Value} {l : List α} (_ : RdSl E W (fun b => wA.heap.size ≤ b) u l) (_ : W.heap.size ≤ w4.heap.size) (_ : ∀ b, wA.heap.size ≤ b → b < W.heap.size → w4.heap[b]? = W.heap[b]?),
            RdSl E (w6.setCell ⟨w1.heap.size, 0, none⟩ (.slice A6 (k + 1) c6)) (fun b => w1.heap.size < b ∧ (Value.slice A6 (k + 1) c6).ownBlock ≠ some b) u l := fun {α E} hs {W u l} h h1 h2 =>
          h.keep hs (fun b hb' hS => by
            have hne : v.ownBlock ≠ some b := fun e => by have := (Hvlt.out b e).2; omega
            exact ⟨⟨by omega, Hat.out b (by omega) hne⟩, (hkeep b (by omega) hne (by omega)).trans ((Hb5.out b (by omega)).trans (h2 b hS hb'))⟩)
        have q1 := hnew (by decide) HrO.out (by omega) (fun b _ hb' => (hb4.block b (by omega)).trans (hb3.block b hb'))
        have q2 := hnew (by decide) (HrR.out.keep (S' := fun b => wA.heap.size ≤ b) (by decide) (fun b _ hS => ⟨by have := hS.resolve_left id; omega, rfl⟩)) (by omega) (fun b _ hb' => hb4.block b hb')
        have q3 := hnew (by decide) (HrB.out.keep (S' := fun b => wA.heap.size ≤ b) (by decide) (fun b _ hS => ⟨by have := hS.resolve_left id; omega, rfl⟩)) (Nat.le_refl _) (fun b _ hb' => rfl)
        go_roundw
        case rel =>
          refine ⟨k + 1, .slice A6 (k + 1) c6, css ++ [acCells x (.slice A2 x.heap.objs.length c2) (.slice A3 x.regs.length c3) (.slice A4 x.box.length c4)], by omega, by go_num, HL6.out.put 0 0 (.slice A6 (k + 1) c6) rfl (by simp), ?_, ?_, hB6.setCell (Nat.le_refl _) _, by simp only [World.setCell, Array.size_modify]; omega⟩
          · rw [List.take_add_one, Hx.out]
            refine (HH.out.keep (fun b hb' hS => ⟨⟨hS.1, Hat.out b (by omega) hS.2⟩, (hkeep b (by omega) hS.2 (by omega)).trans (Hk5.out b hb')⟩)).append (Held.single rfl ⟨_, _, _, rfl, q1, q2, q3⟩)
          · have h6 := ownsRow_setCell_below (a := ⟨w1.heap.size, 0, none⟩) Hown6.out (by simp) (.slice A6 (k + 1) c6)
            simpa [acCells] using h6
        case measure => simp [intOf]; omega
    · have hx : acs.take k = acs := List.take_of_length_le (by omega)
      have hkk : k = acs.length := by omega
      rw [hx] at hH
      subst hkk
      obtain ⟨A6, c6, rfl⟩ := own_form hown
      have Hloc := Lib.hid ((HL1.out.after hb).keep (fun _ _ => rfl))
      obtain ⟨r0, q0, -⟩ := hloc.rules
      obtain ⟨r1, q1, r2, q2, -⟩ := Hloc.out.rules
      have HH := Lib.hid hH
      have Hown := Lib.hid hown
      have Hps := Lib.hid (Hown1.out.below (by decide) hb)
      clear hx hH hown hloc
      go_wp2
      have L7 := Hloc.out.set2 0 (.slice A6 acs.length c6) (.slice B1 ps.length d1) rfl rfl (by simp)
      obtain ⟨c0', -⟩ := L7.rules
      have hf : ∀ b, b ≠ w.heap.size + 1 → ((wr.setCell ⟨w.heap.size + 1, 0, none⟩ (.slice A6 acs.length c6)).setCell ⟨w.heap.size + 1, 1, none⟩ (.slice B1 ps.length d1)).heap[b]? = wr.heap[b]? := fun b hb' => (Below.heap_setCell _ _ _ _ hb').trans (Below.heap_setCell _ _ _ _ hb')
      refine bodyPost_ret (v := _) ?_ rfl ⟨A6, c6, B1, d1, rfl, ?_, ?_, below_set2 hbw (by omega)⟩
      · simp [results, Tryd.results45, go_sem, c0']
      · have ho : OwnSl acE wr (fun b => w1.heap.size < b ∧ (Value.slice A6 acs.length c6).ownBlock ≠ some b) (w1.heap.size + 1) 54 (.slice A6 acs.length c6) acs := ⟨css, HH.out, Hown.out, H3⟩
        refine ho.rd.keep (by decide) (fun b _ hS => ?_)
        have h' : w1.heap.size < b := by
          rcases hS with h | h
          · exact h.1
          · exact h
        exact ⟨by omega, hf b (by omega)⟩
      · refine Hps.out.keep (by decide) (fun b _ hS => ⟨by have := hS.1; omega, hf b (by have := hS.1; omega)⟩)
end Go.Proofs.YtabcjdalifhpdaaDoor
