/- The walks of the document's roots of an actor and of what an actor may be. No condition beside what is read. The walk of the document's WorldFault. No condition beside what is read. -/
import Derived.Test.YtabcjdalifhpdaaDoorChkW
import Derived.Test.YtabcjdalifhpdaaDoorValues
import Derived.Test.YtabcjdalifhpdaaDoorVerOf
namespace Go.Proofs.YtabcjdalifhpdaaDoor
section
open Go.RowKit
theorem vcs_one (l : List V) : ∀ u ∈ cat (vcs l), u.oneCell' = true := fun u hu => by
  obtain ⟨cs, hc, h⟩ := List.mem_flatten.1 hu
  obtain ⟨x, _, rfl⟩ := List.mem_map.1 hc
  simp at h
  rcases h with rfl | rfl <;> rfl
theorem cat_app {l m : List V} : cat (vcs (l ++ m)) = cat (vcs l) ++ cat (vcs m) := by simp [cat, vcs]
theorem rdV_cells {w : World} {S : Nat → Prop} {A : Option Addr} {n c : Nat} {xs : List V} (h : RdSl vE w S (.slice A n c) xs) : ∀ ad, A = some ad → ∀ (j : Nat) (u : Value), (cat (vcs xs))[j]? = some u → w.cell? (ad.add j) = some u := fun ad hA j u hu => by
  obtain ⟨css, hH, hc⟩ := h.held
  obtain rfl := held_vcs hH
  exact hc ad hA j u hu
theorem rdV_none {w : World} {S : Nat → Prop} {A : Option Addr} {n c : Nat} {xs : List V} (h : RdSl vE w S (.slice A n c) xs) (hA : A = none) : n = 0 := by
  obtain ⟨A', c', hv, h1, _, _, h4⟩ := h
  cases hv
  cases xs with
  | nil => rfl
  | cons x xs =>
    obtain ⟨b, o, hb, _⟩ := h4 (by simp)
    rw [hA] at hb
    cases hb
set_option maxRecDepth 100000 in
set_option maxHeartbeats 4000000 in
theorem roots_any (S : Nat → Prop) (kind par most : Int) (Bo : Option Addr) (no co : Nat) (Br : Option Addr) (cr : Nat) (regs : List V) (pc : Int) (Bb : Option Addr) (cb : Nat) (box : List V) (fin : Int) (w : World) (hg : RdSl vE w S (.slice Br regs.length cr) regs) (hx : RdSl vE w S (.slice Bb box.length cb) box) (hs : regs.length + box.length ≤ 1000) :
    Calls Tryd.prog 108 #[.agg #[.int .i64 kind, .int .i64 par, .int .i64 most, .slice Bo no co, .slice Br regs.length cr, .int .i64 pc, .slice Bb box.length cb, .int .i64 fin]] w fun e w' => ∃ A c, e = .returned (.slice A (regs.length + box.length) c) ∧ RdSl vE w' (fun b => w.heap.size ≤ b) (.slice A (regs.length + box.length) c) (regs ++ box) ∧ Below w.heap.size w w' := by
  obtain ⟨-, l1, l2, l3⟩ := hg.lims
  obtain ⟨-, l4, l5, l6⟩ := hx.lims
  have Hg := Lib.hid hg
  have Hx := Lib.hid hx
  clear hg hx
  have T0 : St w.heap.size w ((w.alloc (.cells #[.int .i64 kind, .int .i64 par, .int .i64 most, .slice Bo no co, .slice Br regs.length cr, .int .i64 pc, .slice Bb box.length cb, .int .i64 fin] 54))) [.blk w.heap.size #[.int .i64 kind, .int .i64 par, .int .i64 most, .slice Bo no co, .slice Br regs.length cr, .int .i64 pc, .slice Bb box.length cb, .int .i64 fin] 54] := ((St.start w (Nat.le_refl _)).new' #[.int .i64 kind, .int .i64 par, .int .i64 most, .slice Bo no co, .slice Br regs.length cr, .int .i64 pc, .slice Bb box.length cb, .int .i64 fin] 54 (w.heap.size) (by simp)).1
  have HT := Lib.hid T0
  have hz : w.heap.size + 1 ≤ (w.alloc (.cells #[.int .i64 kind, .int .i64 par, .int .i64 most, .slice Bo no co, .slice Br regs.length cr, .int .i64 pc, .slice Bb box.length cb, .int .i64 fin] 54)).heap.size := by simp
  clear T0
  replace Hg : Hid (RdSl vE ((w.alloc (.cells #[.int .i64 kind, .int .i64 par, .int .i64 most, .slice Bo no co, .slice Br regs.length cr, .int .i64 pc, .slice Bb box.length cb, .int .i64 fin] 54))) (Fr 0 [.blk w.heap.size #[.int .i64 kind, .int .i64 par, .int .i64 most, .slice Bo no co, .slice Br regs.length cr, .int .i64 pc, .slice Bb box.length cb, .int .i64 fin] 54]) (.slice Br regs.length cr) regs) := Lib.hid (RdSl.pool (E := vE) Hg.out (by decide) HT.out)
  replace Hx : Hid (RdSl vE ((w.alloc (.cells #[.int .i64 kind, .int .i64 par, .int .i64 most, .slice Bo no co, .slice Br regs.length cr, .int .i64 pc, .slice Bb box.length cb, .int .i64 fin] 54))) (Fr 0 [.blk w.heap.size #[.int .i64 kind, .int .i64 par, .int .i64 most, .slice Bo no co, .slice Br regs.length cr, .int .i64 pc, .slice Bb box.length cb, .int .i64 fin] 54]) (.slice Bb box.length cb) box) := Lib.hid (RdSl.pool (E := vE) Hx.out (by decide) HT.out)
  go_enter Tryd.func108, Tryd.ntmps108
  go_upto_region 1 with fail
  generalize (w.alloc (.cells #[.int .i64 kind, .int .i64 par, .int .i64 most, .slice Bo no co, .slice Br regs.length cr, .int .i64 pc, .slice Bb box.length cb, .int .i64 fin] 54)) = W1 at *
  obtain ⟨r_a, q_a, -⟩ := HT.out.rules
  have z_a : w.heap.size < W1.heap.size := (HT.out.in_ 0 rfl rfl).2
  refine wp_region_plan [.still [0, 1, 3, 4], .loud 2 [3, 4], .loud 5 [], .still [6]] (by kernel_rfl) (by kernel_rfl) ?_
  refine plan_still ?_
  simp only [pick, List.getElem?_toArray, List.getElem?_cons_succ, List.getElem?_cons_zero]
  repeat still_step
  refine wpStill_nil ?_
  refine plan_loud ?_
  simp only [pick, List.getElem?_toArray, List.getElem?_cons_succ, List.getElem?_cons_zero]
  go_wp2_with fail
  obtain ⟨T', K'⟩ := HT.out.drew'
  replace HT := Lib.hid T'
  replace Hg := Lib.hid (Hg.out.move (by decide) K')
  replace Hx := Lib.hid (Hx.out.move (by decide) K')
  clear T' K'
  replace hz : w.heap.size + 1 ≤ W1.drew.heap.size := hz
  refine (values_any _ Br cr regs _ Hg.out).mono ?_
  rintro en W9 ⟨v9, rfl, ⟨css, hH, hown, -⟩, hb⟩
  obtain rfl := held_vcs hH
  obtain ⟨A9, c9, rfl⟩ := own_form hown
  clear r_a q_a z_a
  obtain ⟨T', K'⟩ := HT.out.ownRow hb hown (m := w.heap.size) (by omega)
  replace HT := Lib.hid T'
  replace Hg := Lib.hid (Hg.out.move (by decide) K')
  replace Hx := Lib.hid (Hx.out.move (by decide) K')
  clear T' K'
  replace hz : w.heap.size + 1 ≤ W9.heap.size := Nat.le_trans hz hb.size
  clear hb hown hH
  replace HT : Hid (St w.heap.size w W9 [.row w.heap.size 61 2 (.slice A9 regs.length c9) regs.length (cat (vcs regs)), .blk w.heap.size #[.int .i64 kind, .int .i64 par, .int .i64 most, .slice Bo no co, .slice Br regs.length cr, .int .i64 pc, .slice Bb box.length cb, .int .i64 fin] 54]) := HT
  obtain ⟨r_a, q_a, -⟩ := HT.out.rules
  have z_a : w.heap.size < W9.heap.size := (HT.out.in_ 1 rfl rfl).2
  go_wp2_with fail
  refine ⟨?_, ?_⟩
  · simp only [Again, pick, List.getElem?_toArray, List.getElem?_cons_succ, List.getElem?_cons_zero]
    refine ⟨?_, ?_, trivial⟩
    all_goals (still_step; exact wpStill_nil rfl)
  refine plan_loud ?_
  simp only [pick, List.getElem?_toArray, List.getElem?_cons_succ, List.getElem?_cons_zero]
  refine wpList_append_stx rfl (.tmp 5) (.tmp 7) _ rfl (e := 61) (size := 2) (bytes := 16) Tryd.underlying52 infoV rfl (by omega) HT.out 0 rfl rfl Bb box.length cb (cat (vcs box)) rfl (vcs_len _) (rdV_cells Hx.out) (fun h => rdV_none Hx.out h) (vcs_one _) (by unfold maxLen; omega) (by omega) HT.out.base ?next
  case next =>
    intro A2 c3 W4 T' K' hs3
    try rw [← cat_app] at T' K'
    clear r_a q_a z_a
    replace T' : St w.heap.size w W4 [.row w.heap.size 61 2 (.slice A2 (regs.length + box.length) c3) (regs.length + box.length) (cat (vcs (regs ++ box))), .blk w.heap.size #[.int .i64 kind, .int .i64 par, .int .i64 most, .slice Bo no co, .slice Br regs.length cr, .int .i64 pc, .slice Bb box.length cb, .int .i64 fin] 54] := T'
    replace K' : Keeps W9 [.row w.heap.size 61 2 (.slice A9 regs.length c9) regs.length (cat (vcs regs)), .blk w.heap.size #[.int .i64 kind, .int .i64 par, .int .i64 most, .slice Bo no co, .slice Br regs.length cr, .int .i64 pc, .slice Bb box.length cb, .int .i64 fin] 54] W4 [.row w.heap.size 61 2 (.slice A2 (regs.length + box.length) c3) (regs.length + box.length) (cat (vcs (regs ++ box))), .blk w.heap.size #[.int .i64 kind, .int .i64 par, .int .i64 most, .slice Bo no co, .slice Br regs.length cr, .int .i64 pc, .slice Bb box.length cb, .int .i64 fin] 54] := K'
    replace HT := Lib.hid T'
    replace Hg := Lib.hid (Hg.out.move (by decide) K')
    replace Hx := Lib.hid (Hx.out.move (by decide) K')
    replace hz : w.heap.size + 1 ≤ W4.heap.size := by omega
    clear T' K'
    obtain ⟨r_a, q_a, -⟩ := HT.out.rules
    have z_a : w.heap.size < W4.heap.size := (HT.out.in_ 1 rfl rfl).2
    refine ⟨trivial, ?_⟩
    refine plan_still ?_
    simp only [pick, List.getElem?_toArray, List.getElem?_cons_succ, List.getElem?_cons_zero]
    repeat still_step
    refine wpStill_nil ?_
    refine plan_end (NoPanic.normal ?_)
    go_wp2_with fail
    go_ret
    have h9 := HT.out.rdRow (E := vE) (n := w.heap.size) 0 rfl rfl List.length_append.symm (vcs_held (regs ++ box)) (by rw [List.length_append]; show (regs.length + box.length) * 16 ≤ _; omega) (by omega) (by decide)
    exact ⟨_, _, rfl, h9, HT.out.below⟩
set_option maxRecDepth 100000 in
set_option maxHeartbeats 8000000 in
theorem actorMay_any (S T : Nat → Prop) (Ap : Option Addr) (cp : Nat) (ps : List (List Ins)) (n : Nat) (hn : n ≤ 1000) (a : Ac) (Bo Br Bb : Option Addr) (co cr cb : Nat) (w : World) (hr : RdSl pgE w S (.slice Ap ps.length cp) ps) (ho : RdSl obE w T (.slice Bo a.heap.objs.length co) a.heap.objs) (hg : RdSl vE w T (.slice Br a.regs.length cr) a.regs) (hx : RdSl vE w T (.slice Bb a.box.length cb) a.box) :
    Calls Tryd.prog 73 #[.agg #[.slice Ap ps.length cp], .agg #[.int .i64 a.kind, .int .i64 a.parent, .int .i64 a.heap.most, .slice Bo a.heap.objs.length co, .slice Br a.regs.length cr, .int .i64 a.pc, .slice Bb a.box.length cb, .int .i64 a.fin], .int .i64 n] w fun e w' => e = .returned (.bool (acB ps n a)) ∧ Below w.heap.size w w' := by
  obtain ⟨kind, par, ⟨most, os⟩, regs, pc, box, fin⟩ := a
  dsimp only at ho hg hx ⊢
  obtain ⟨q1, hq1⟩ : ∃ q, decide (kind < 0 ∨ (ps.length : Int) ≤ kind ∨ par < -1 ∨ (n : Int) ≤ par ∨ fin < 0 ∨ 8 < fin ∨ regs.length ≠ 8 ∨ 6 < box.length) = q := ⟨_, rfl⟩
  obtain ⟨q4, hq4⟩ : ∃ q, decide (box.length = 0 ∧ os.length = 0 ∧ pc = -1) = q := ⟨_, rfl⟩
  obtain ⟨q3, hq3⟩ : ∃ q, box.any (fun v => v.k != 2) = q := ⟨_, rfl⟩
  obtain ⟨q2, hq2⟩ : ∃ q, decide (hpB ⟨most, os⟩ (regs ++ box) = false ∨ pc < -1 ∨ ((ps.getD kind.toNat []).length : Int) ≤ pc) = q := ⟨_, rfl⟩
  have hres : acB ps n ⟨kind, par, ⟨most, os⟩, regs, pc, box, fin⟩ = (!q1 && (!q2 && (!q3 && (fin == 0 || q4)))) := by rw [acB_split, ← hq1, ← hq2, ← hq3, ← hq4]; rfl
  rw [hres]
  clear hres
  have HQ2 := Lib.hid hq2
  have HQ3 := Lib.hid hq3
  clear hq2 hq3
  obtain ⟨b1, hb1⟩ : ∃ b, (decide (0 ≤ kind) && decide (kind ≤ (ps.length : Int) - 1)) = b := ⟨_, rfl⟩
  obtain ⟨b2, hb2⟩ : ∃ b, (decide (-1 ≤ par) && decide (par ≤ (n : Int) - 1)) = b := ⟨_, rfl⟩
  obtain ⟨b3, hb3⟩ : ∃ b, (decide (0 ≤ fin) && decide (fin ≤ 8)) = b := ⟨_, rfl⟩
  have HB1 := Lib.hid hb1
  have HB2 := Lib.hid hb2
  have HB3 := Lib.hid hb3
  clear hb1 hb2 hb3
  have Hr := Lib.hid hr
  have Ho := Lib.hid ho
  have Hg := Lib.hid hg
  have Hx := Lib.hid hx
  obtain ⟨-, l1, l2, -⟩ := hr.lims
  obtain ⟨-, l3, l4, l9⟩ := hg.lims
  obtain ⟨-, l5, l6, l7⟩ := hx.lims
  clear hr ho hg hx
  have T0 : St w.heap.size w (((w.alloc (.cells #[.slice Ap ps.length cp] 26)).alloc (.cells #[.int .i64 kind, .int .i64 par, .int .i64 most, .slice Bo os.length co, .slice Br regs.length cr, .int .i64 pc, .slice Bb box.length cb, .int .i64 fin] 54))) [.blk (w.heap.size + 1) #[.int .i64 kind, .int .i64 par, .int .i64 most, .slice Bo os.length co, .slice Br regs.length cr, .int .i64 pc, .slice Bb box.length cb, .int .i64 fin] 54, .blk w.heap.size #[.slice Ap ps.length cp] 26] := ((((St.start w (Nat.le_refl _)).new' #[.slice Ap ps.length cp] 26 (w.heap.size) (by simp)).1).new' #[.int .i64 kind, .int .i64 par, .int .i64 most, .slice Bo os.length co, .slice Br regs.length cr, .int .i64 pc, .slice Bb box.length cb, .int .i64 fin] 54 (w.heap.size + 1) (by simp)).1
  have HT := Lib.hid T0
  have hz : w.heap.size + 1 + 1 ≤ ((w.alloc (.cells #[.slice Ap ps.length cp] 26)).alloc (.cells #[.int .i64 kind, .int .i64 par, .int .i64 most, .slice Bo os.length co, .slice Br regs.length cr, .int .i64 pc, .slice Bb box.length cb, .int .i64 fin] 54)).heap.size := by simp
  clear T0
  replace Hr : Hid (RdSl pgE (((w.alloc (.cells #[.slice Ap ps.length cp] 26)).alloc (.cells #[.int .i64 kind, .int .i64 par, .int .i64 most, .slice Bo os.length co, .slice Br regs.length cr, .int .i64 pc, .slice Bb box.length cb, .int .i64 fin] 54))) (Fr 0 [.blk (w.heap.size + 1) #[.int .i64 kind, .int .i64 par, .int .i64 most, .slice Bo os.length co, .slice Br regs.length cr, .int .i64 pc, .slice Bb box.length cb, .int .i64 fin] 54, .blk w.heap.size #[.slice Ap ps.length cp] 26]) (.slice Ap ps.length cp) ps) := Lib.hid (RdSl.pool (E := pgE) Hr.out (by show 0 < 1; omega) HT.out)
  replace Ho : Hid (RdSl obE (((w.alloc (.cells #[.slice Ap ps.length cp] 26)).alloc (.cells #[.int .i64 kind, .int .i64 par, .int .i64 most, .slice Bo os.length co, .slice Br regs.length cr, .int .i64 pc, .slice Bb box.length cb, .int .i64 fin] 54))) (Fr 0 [.blk (w.heap.size + 1) #[.int .i64 kind, .int .i64 par, .int .i64 most, .slice Bo os.length co, .slice Br regs.length cr, .int .i64 pc, .slice Bb box.length cb, .int .i64 fin] 54, .blk w.heap.size #[.slice Ap ps.length cp] 26]) (.slice Bo os.length co) os) := Lib.hid (RdSl.pool (E := obE) Ho.out (by decide) HT.out)
  replace Hg : Hid (RdSl vE (((w.alloc (.cells #[.slice Ap ps.length cp] 26)).alloc (.cells #[.int .i64 kind, .int .i64 par, .int .i64 most, .slice Bo os.length co, .slice Br regs.length cr, .int .i64 pc, .slice Bb box.length cb, .int .i64 fin] 54))) (Fr 0 [.blk (w.heap.size + 1) #[.int .i64 kind, .int .i64 par, .int .i64 most, .slice Bo os.length co, .slice Br regs.length cr, .int .i64 pc, .slice Bb box.length cb, .int .i64 fin] 54, .blk w.heap.size #[.slice Ap ps.length cp] 26]) (.slice Br regs.length cr) regs) := Lib.hid (RdSl.pool (E := vE) Hg.out (by decide) HT.out)
  replace Hx : Hid (RdSl vE (((w.alloc (.cells #[.slice Ap ps.length cp] 26)).alloc (.cells #[.int .i64 kind, .int .i64 par, .int .i64 most, .slice Bo os.length co, .slice Br regs.length cr, .int .i64 pc, .slice Bb box.length cb, .int .i64 fin] 54))) (Fr 0 [.blk (w.heap.size + 1) #[.int .i64 kind, .int .i64 par, .int .i64 most, .slice Bo os.length co, .slice Br regs.length cr, .int .i64 pc, .slice Bb box.length cb, .int .i64 fin] 54, .blk w.heap.size #[.slice Ap ps.length cp] 26]) (.slice Bb box.length cb) box) := Lib.hid (RdSl.pool (E := vE) Hx.out (by decide) HT.out)
  go_enter Tryd.func73, Tryd.ntmps73
  go_upto_region 1 with fail
  generalize ((w.alloc (.cells #[.slice Ap ps.length cp] 26)).alloc (.cells #[.int .i64 kind, .int .i64 par, .int .i64 most, .slice Bo os.length co, .slice Br regs.length cr, .int .i64 pc, .slice Bb box.length cb, .int .i64 fin] 54)) = W1 at *
  obtain ⟨r_a, q_a, r_p, q_p, -⟩ := HT.out.rules
  have z_a : w.heap.size + 1 < W1.heap.size := (HT.out.in_ 0 rfl rfl).2
  have z_p : w.heap.size < W1.heap.size := (HT.out.in_ 1 rfl rfl).2
  go_cut [41] from 8 to 41 (fun s9 w9 => s9 = .bool q1 ∧ w9 = W1)
  case first =>
    go_wp2_with fail
    refine (in_is kind 0 (((ps.length : Int) - 1)) _ HB1 _).mono ?_
    rintro en w' ⟨rfl, rfl⟩
    cases b1
    · go_wp2_with fail
      go_meet
      exact ⟨congrArg Value.bool ((decide_eq_true (by have u := HB1.out; simp only [Bool.and_eq_false_iff, decide_eq_false_iff_not] at u; omega)).symm.trans hq1), rfl⟩
    · go_wp2_with fail
      refine (in_is par ((-1)) (((n : Int) - 1)) _ HB2 _).mono ?_
      rintro en w' ⟨rfl, rfl⟩
      cases b2
      · go_wp2_with fail
        go_meet
        exact ⟨congrArg Value.bool ((decide_eq_true (by have u := HB2.out; simp only [Bool.and_eq_false_iff, decide_eq_false_iff_not] at u; omega)).symm.trans hq1), rfl⟩
      · go_wp2_with fail
        refine (in_is fin 0 8 _ HB3 _).mono ?_
        rintro en w' ⟨rfl, rfl⟩
        cases b3
        · go_wp2_with fail
          go_meet
          exact ⟨congrArg Value.bool ((decide_eq_true (by have u := HB3.out; simp only [Bool.and_eq_false_iff, decide_eq_false_iff_not] at u; omega)).symm.trans hq1), rfl⟩
        · by_cases hh6 : regs.length ≠ 8
          · have e6 : ((regs.length : Int) != 8) = true := by simp only [bne_iff_ne, ne_eq]; omega
            go_wp2_with fail
            go_meet
            exact ⟨congrArg Value.bool ((decide_eq_true (by omega)).symm.trans hq1), rfl⟩
          · have e6 : ((regs.length : Int) != 8) = false := by simp only [bne_eq_false_iff_eq]; omega
            by_cases hh7 : 6 < box.length
            · have e7 : (6 : Int) < (box.length : Int) := by omega
              go_wp2_with fail
              go_meet
              exact ⟨congrArg Value.bool ((decide_eq_true (by omega)).symm.trans hq1), rfl⟩
            · have e7 : ¬ (6 : Int) < (box.length : Int) := by omega
              go_wp2_with fail
              go_meet
              first | exact ⟨congrArg Value.bool ((decide_eq_false (by have u1 := HB1.out; have u2 := HB2.out; have u3 := HB3.out; simp only [Bool.and_eq_true, decide_eq_true_eq] at u1 u2 u3; omega)).symm.trans hq1), rfl⟩ | exact ⟨congrArg Value.bool ((decide_eq_false (show ¬ (6 : Int) < (box.length : Int) by omega)).trans (((decide_eq_false (by have u1 := HB1.out; have u2 := HB2.out; have u3 := HB3.out; simp only [Bool.and_eq_true, decide_eq_true_eq] at u1 u2 u3; omega)).symm.trans hq1))), rfl⟩
  case rest =>
  obtain ⟨rfl, hwc⟩ := hcut
  rw [hwc]
  clear hwc
  cases q1
  rotate_left
  focus
    go_wp2_with fail
    go_ret
    exact ⟨rfl, HT.out.below⟩
  have hC := of_decide_eq_false hq1
  obtain ⟨k, rfl⟩ := Int.eq_ofNat_of_zero_le (show 0 ≤ kind by omega)
  have hk : k < ps.length := by omega
  have k1 : (0 : Int) ≤ (k : Int) := by omega
  have k2 : (k : Int) < (ps.length : Int) := by omega
  obtain ⟨l, hl⟩ : ∃ l, ps[k]? = some l := ⟨_, List.getElem?_eq_getElem hk⟩
  have hkl : ps.getD (k : Int).toNat [] = l := by rw [Int.toNat_natCast, getD_some hl]
  have hq2 := HQ2.out
  rw [hkl] at hq2
  have h8 : regs.length = 8 := by omega
  have h6 : box.length ≤ 6 := by omega
  have HL := Lib.hid hl
  have H8 := Lib.hid h8
  clear hl hC hq1 h8 hkl HB1 HB2 HB3
  obtain ⟨fb, fo, lb, lc, hAp, -, -, -, -⟩ := Hr.out.at_s HL.out
  subst hAp
  have hlb : l.length ≤ 9223372036854775807 := by obtain ⟨_, _, _, _, _, _, _, _, hl9⟩ := Hr.out.at_s HL.out; obtain ⟨_, z1, z2, _⟩ := hl9.lims; omega
  cases hpp : hpB ⟨most, os⟩ (regs ++ box)
  · have HP := Lib.hid hpp
    obtain rfl : true = q2 := (decide_eq_true (Or.inl hpp)).symm.trans hq2
    clear hpp hq2
    clear r_a q_a r_p q_p z_a z_p
    obtain ⟨r_a, q_a, r_p, q_p, -⟩ := HT.out.rules
    have z_a : w.heap.size + 1 < W1.heap.size := (HT.out.in_ 0 rfl rfl).2
    have z_p : w.heap.size < W1.heap.size := (HT.out.in_ 1 rfl rfl).2
    go_upto_region 3 with fail
    refine wp_region_plan [.still [0, 1, 2], .loud 3 [0, 1], .loud 4 [], .still [5, 6, 7, 8, 9, 10, 11, 12, 13, 14, 15, 16], .loud 17 [], .still [18, 19]] (by kernel_rfl) (by kernel_rfl) ?_
    refine plan_still ?_
    simp only [pick, List.getElem?_toArray, List.getElem?_cons_succ, List.getElem?_cons_zero]
    repeat still_step
    refine wpStill_nil ?_
    refine plan_loud ?_
    simp only [pick, List.getElem?_toArray, List.getElem?_cons_succ, List.getElem?_cons_zero]
    go_wp2_with fail
    obtain ⟨T', K'⟩ := HT.out.drew'
    replace HT := Lib.hid T'
    replace Hr := Lib.hid (Hr.out.move (by show 0 < 1; omega) K')
    replace Ho := Lib.hid (Ho.out.move (by decide) K')
    replace Hg := Lib.hid (Hg.out.move (by decide) K')
    replace Hx := Lib.hid (Hx.out.move (by decide) K')
    clear T' K'
    replace hz : w.heap.size + 1 + 1 ≤ W1.drew.heap.size := hz
    refine (roots_any _ (k : Nat) par most Bo os.length co Br cr regs pc Bb cb box fin _ Hg.out Hx.out (by rw [H8.out]; omega)).mono ?_
    rintro en W9 ⟨Ac, cc, rfl, hrc, hb⟩
    clear r_a q_a r_p q_p z_a z_p
    obtain ⟨T', K'⟩ := HT.out.call hb
    replace HT := Lib.hid T'
    replace Hr := Lib.hid (Hr.out.move (by show 0 < 1; omega) K')
    replace Ho := Lib.hid (Ho.out.move (by decide) K')
    replace Hg := Lib.hid (Hg.out.move (by decide) K')
    replace Hx := Lib.hid (Hx.out.move (by decide) K')
    clear T' K'
    replace hz : w.heap.size + 1 + 1 ≤ W9.heap.size := Nat.le_trans hz hb.size
    clear hb
    have HRC := Lib.hid hrc
    clear hrc
    obtain ⟨r_a, q_a, r_p, q_p, -⟩ := HT.out.rules
    have z_a : w.heap.size + 1 < W9.heap.size := (HT.out.in_ 0 rfl rfl).2
    have z_p : w.heap.size < W9.heap.size := (HT.out.in_ 1 rfl rfl).2
    obtain ⟨lb, lc, y0⟩ := at_s8 Hr.out HL.out
    go_wp2_with fail
    refine ⟨?_, ?_⟩
    · simp only [Again, pick, List.getElem?_toArray, List.getElem?_cons_succ, List.getElem?_cons_zero]
      refine ⟨?_, ?_, trivial⟩
      all_goals (still_step; exact wpStill_nil rfl)
    refine plan_loud ?_
    simp only [pick, List.getElem?_toArray, List.getElem?_cons_succ, List.getElem?_cons_zero]
    go_wp2_with fail
    have hrc := HRC.out
    rw [← List.length_append] at hrc
    have G9 := may_is most _ _ Bo Ac co cc os (regs ++ box) _ _ HP Ho.out hrc
    rw [List.length_append] at G9
    refine (G9).mono ?_
    rintro en W2 ⟨rfl, hb⟩
    clear r_a q_a r_p q_p z_a z_p
    obtain ⟨T', K'⟩ := HT.out.call hb
    replace HT := Lib.hid T'
    replace Hr := Lib.hid (Hr.out.move (by show 0 < 1; omega) K')
    replace Ho := Lib.hid (Ho.out.move (by decide) K')
    replace Hg := Lib.hid (Hg.out.move (by decide) K')
    replace Hx := Lib.hid (Hx.out.move (by decide) K')
    clear T' K'
    replace hz : w.heap.size + 1 + 1 ≤ W2.heap.size := Nat.le_trans hz hb.size
    clear hb
    clear hrc G9 y0 HRC
    obtain ⟨r_a, q_a, r_p, q_p, -⟩ := HT.out.rules
    have z_a : w.heap.size + 1 < W2.heap.size := (HT.out.in_ 0 rfl rfl).2
    have z_p : w.heap.size < W2.heap.size := (HT.out.in_ 1 rfl rfl).2
    obtain ⟨lb, lc, y0⟩ := at_s8 Hr.out HL.out
    go_wp2_with fail
    refine ⟨trivial, ?_⟩
    refine plan_still ?_
    simp only [pick, List.getElem?_toArray, List.getElem?_cons_succ, List.getElem?_cons_zero]
    refine wpStill_step (fun K9 hK9 => ?_)
    go_simp
    iterate 11 (generalize hA9 : (Act.mk _ _) = a9; refine hK9 a9 ?_; clear hK9 K9; refine wpStill_step (fun K9 hK9 => ?_); subst hA9; go_simp)
    generalize hA9 : (Act.mk _ _) = a9
    refine hK9 a9 ?_
    subst hA9
    refine wpStill_nil ?_
    refine plan_loud ?_
    simp only [pick, List.getElem?_toArray, List.getElem?_cons_succ, List.getElem?_cons_zero]
    go_wp2_with fail
    refine ⟨trivial, ?_⟩
    refine plan_still ?_
    simp only [pick, List.getElem?_toArray, List.getElem?_cons_succ, List.getElem?_cons_zero]
    refine wpStill_step (fun K9 hK9 => ?_)
    go_simp
    iterate 1 (generalize hA9 : (Act.mk _ _) = a9; refine hK9 a9 ?_; clear hK9 K9; refine wpStill_step (fun K9 hK9 => ?_); subst hA9; go_simp)
    generalize hA9 : (Act.mk _ _) = a9
    refine hK9 a9 ?_
    subst hA9
    refine wpStill_nil ?_
    refine plan_end (NoPanic.normal ?_)
    go_wp2_with fail
    go_ret
    exact ⟨rfl, HT.out.below⟩
  · have HP := Lib.hid hpp
    obtain ⟨b4, hb4⟩ : ∃ b, (decide (-1 ≤ pc) && decide (pc ≤ (l.length : Int) - 1)) = b := ⟨_, rfl⟩
    have HB4 := Lib.hid hb4
    have hq5 : q2 = !b4 := by
      rw [← hq2, ← hb4, Bool.eq_iff_iff]
      simp only [hpp, Bool.true_eq_false, false_or, decide_eq_true_eq, Bool.not_eq_true', Bool.and_eq_false_iff, decide_eq_false_iff_not]
      omega
    subst hq5
    clear hpp hq2 hb4
    cases b4
    · clear r_a q_a r_p q_p z_a z_p
      obtain ⟨r_a, q_a, r_p, q_p, -⟩ := HT.out.rules
      have z_a : w.heap.size + 1 < W1.heap.size := (HT.out.in_ 0 rfl rfl).2
      have z_p : w.heap.size < W1.heap.size := (HT.out.in_ 1 rfl rfl).2
      go_upto_region 3 with fail
      refine wp_region_plan [.still [0, 1, 2], .loud 3 [0, 1], .loud 4 [], .still [5, 6, 7, 8, 9, 10, 11, 12, 13, 14, 15, 16], .loud 17 [], .still [18, 19]] (by kernel_rfl) (by kernel_rfl) ?_
      refine plan_still ?_
      simp only [pick, List.getElem?_toArray, List.getElem?_cons_succ, List.getElem?_cons_zero]
      repeat still_step
      refine wpStill_nil ?_
      refine plan_loud ?_
      simp only [pick, List.getElem?_toArray, List.getElem?_cons_succ, List.getElem?_cons_zero]
      go_wp2_with fail
      obtain ⟨T', K'⟩ := HT.out.drew'
      replace HT := Lib.hid T'
      replace Hr := Lib.hid (Hr.out.move (by show 0 < 1; omega) K')
      replace Ho := Lib.hid (Ho.out.move (by decide) K')
      replace Hg := Lib.hid (Hg.out.move (by decide) K')
      replace Hx := Lib.hid (Hx.out.move (by decide) K')
      clear T' K'
      replace hz : w.heap.size + 1 + 1 ≤ W1.drew.heap.size := hz
      refine (roots_any _ (k : Nat) par most Bo os.length co Br cr regs pc Bb cb box fin _ Hg.out Hx.out (by rw [H8.out]; omega)).mono ?_
      rintro en W9 ⟨Ac, cc, rfl, hrc, hb⟩
      clear r_a q_a r_p q_p z_a z_p
      obtain ⟨T', K'⟩ := HT.out.call hb
      replace HT := Lib.hid T'
      replace Hr := Lib.hid (Hr.out.move (by show 0 < 1; omega) K')
      replace Ho := Lib.hid (Ho.out.move (by decide) K')
      replace Hg := Lib.hid (Hg.out.move (by decide) K')
      replace Hx := Lib.hid (Hx.out.move (by decide) K')
      clear T' K'
      replace hz : w.heap.size + 1 + 1 ≤ W9.heap.size := Nat.le_trans hz hb.size
      clear hb
      have HRC := Lib.hid hrc
      clear hrc
      obtain ⟨r_a, q_a, r_p, q_p, -⟩ := HT.out.rules
      have z_a : w.heap.size + 1 < W9.heap.size := (HT.out.in_ 0 rfl rfl).2
      have z_p : w.heap.size < W9.heap.size := (HT.out.in_ 1 rfl rfl).2
      obtain ⟨lb, lc, y0⟩ := at_s8 Hr.out HL.out
      go_wp2_with fail
      refine ⟨?_, ?_⟩
      · simp only [Again, pick, List.getElem?_toArray, List.getElem?_cons_succ, List.getElem?_cons_zero]
        refine ⟨?_, ?_, trivial⟩
        all_goals (still_step; exact wpStill_nil rfl)
      refine plan_loud ?_
      simp only [pick, List.getElem?_toArray, List.getElem?_cons_succ, List.getElem?_cons_zero]
      go_wp2_with fail
      have hrc := HRC.out
      rw [← List.length_append] at hrc
      have G9 := may_is most _ _ Bo Ac co cc os (regs ++ box) _ _ HP Ho.out hrc
      rw [List.length_append] at G9
      refine (G9).mono ?_
      rintro en W3 ⟨rfl, hb⟩
      clear r_a q_a r_p q_p z_a z_p
      obtain ⟨T', K'⟩ := HT.out.call hb
      replace HT := Lib.hid T'
      replace Hr := Lib.hid (Hr.out.move (by show 0 < 1; omega) K')
      replace Ho := Lib.hid (Ho.out.move (by decide) K')
      replace Hg := Lib.hid (Hg.out.move (by decide) K')
      replace Hx := Lib.hid (Hx.out.move (by decide) K')
      clear T' K'
      replace hz : w.heap.size + 1 + 1 ≤ W3.heap.size := Nat.le_trans hz hb.size
      clear hb
      clear hrc G9 y0 HRC
      obtain ⟨r_a, q_a, r_p, q_p, -⟩ := HT.out.rules
      have z_a : w.heap.size + 1 < W3.heap.size := (HT.out.in_ 0 rfl rfl).2
      have z_p : w.heap.size < W3.heap.size := (HT.out.in_ 1 rfl rfl).2
      obtain ⟨lb, lc, y0⟩ := at_s8 Hr.out HL.out
      go_wp2_with fail
      refine ⟨trivial, ?_⟩
      refine plan_still ?_
      simp only [pick, List.getElem?_toArray, List.getElem?_cons_succ, List.getElem?_cons_zero]
      repeat still_step
      refine wpStill_nil ?_
      refine plan_loud ?_
      simp only [pick, List.getElem?_toArray, List.getElem?_cons_succ, List.getElem?_cons_zero]
      go_wp2_with fail
      refine (in_is pc ((-1)) (((l.length : Int) - 1)) _ HB4 _).mono ?_
      rintro en w' ⟨rfl, rfl⟩
      go_wp2_with fail
      refine ⟨trivial, ?_⟩
      refine plan_still ?_
      simp only [pick, List.getElem?_toArray, List.getElem?_cons_succ, List.getElem?_cons_zero]
      repeat still_step
      refine wpStill_nil ?_
      refine plan_end (NoPanic.normal ?_)
      go_wp2_with fail
      go_ret
      exact ⟨rfl, HT.out.below⟩
    · clear r_a q_a r_p q_p z_a z_p
      obtain ⟨r_a, q_a, r_p, q_p, -⟩ := HT.out.rules
      have z_a : w.heap.size + 1 < W1.heap.size := (HT.out.in_ 0 rfl rfl).2
      have z_p : w.heap.size < W1.heap.size := (HT.out.in_ 1 rfl rfl).2
      go_upto_region 3 with fail
      refine wp_region_plan [.still [0, 1, 2], .loud 3 [0, 1], .loud 4 [], .still [5, 6, 7, 8, 9, 10, 11, 12, 13, 14, 15, 16], .loud 17 [], .still [18, 19]] (by kernel_rfl) (by kernel_rfl) ?_
      refine plan_still ?_
      simp only [pick, List.getElem?_toArray, List.getElem?_cons_succ, List.getElem?_cons_zero]
      repeat still_step
      refine wpStill_nil ?_
      refine plan_loud ?_
      simp only [pick, List.getElem?_toArray, List.getElem?_cons_succ, List.getElem?_cons_zero]
      go_wp2_with fail
      obtain ⟨T', K'⟩ := HT.out.drew'
      replace HT := Lib.hid T'
      replace Hr := Lib.hid (Hr.out.move (by show 0 < 1; omega) K')
      replace Ho := Lib.hid (Ho.out.move (by decide) K')
      replace Hg := Lib.hid (Hg.out.move (by decide) K')
      replace Hx := Lib.hid (Hx.out.move (by decide) K')
      clear T' K'
      replace hz : w.heap.size + 1 + 1 ≤ W1.drew.heap.size := hz
      refine (roots_any _ (k : Nat) par most Bo os.length co Br cr regs pc Bb cb box fin _ Hg.out Hx.out (by rw [H8.out]; omega)).mono ?_
      rintro en W9 ⟨Ac, cc, rfl, hrc, hb⟩
      clear r_a q_a r_p q_p z_a z_p
      obtain ⟨T', K'⟩ := HT.out.call hb
      replace HT := Lib.hid T'
      replace Hr := Lib.hid (Hr.out.move (by show 0 < 1; omega) K')
      replace Ho := Lib.hid (Ho.out.move (by decide) K')
      replace Hg := Lib.hid (Hg.out.move (by decide) K')
      replace Hx := Lib.hid (Hx.out.move (by decide) K')
      clear T' K'
      replace hz : w.heap.size + 1 + 1 ≤ W9.heap.size := Nat.le_trans hz hb.size
      clear hb
      have HRC := Lib.hid hrc
      clear hrc
      obtain ⟨r_a, q_a, r_p, q_p, -⟩ := HT.out.rules
      have z_a : w.heap.size + 1 < W9.heap.size := (HT.out.in_ 0 rfl rfl).2
      have z_p : w.heap.size < W9.heap.size := (HT.out.in_ 1 rfl rfl).2
      obtain ⟨lb, lc, y0⟩ := at_s8 Hr.out HL.out
      go_wp2_with fail
      refine ⟨?_, ?_⟩
      · simp only [Again, pick, List.getElem?_toArray, List.getElem?_cons_succ, List.getElem?_cons_zero]
        refine ⟨?_, ?_, trivial⟩
        all_goals (still_step; exact wpStill_nil rfl)
      refine plan_loud ?_
      simp only [pick, List.getElem?_toArray, List.getElem?_cons_succ, List.getElem?_cons_zero]
      go_wp2_with fail
      have hrc := HRC.out
      rw [← List.length_append] at hrc
      have G9 := may_is most _ _ Bo Ac co cc os (regs ++ box) _ _ HP Ho.out hrc
      rw [List.length_append] at G9
      refine (G9).mono ?_
      rintro en W4 ⟨rfl, hb⟩
      clear r_a q_a r_p q_p z_a z_p
      obtain ⟨T', K'⟩ := HT.out.call hb
      replace HT := Lib.hid T'
      replace Hr := Lib.hid (Hr.out.move (by show 0 < 1; omega) K')
      replace Ho := Lib.hid (Ho.out.move (by decide) K')
      replace Hg := Lib.hid (Hg.out.move (by decide) K')
      replace Hx := Lib.hid (Hx.out.move (by decide) K')
      clear T' K'
      replace hz : w.heap.size + 1 + 1 ≤ W4.heap.size := Nat.le_trans hz hb.size
      clear hb
      clear hrc G9 y0 HRC
      obtain ⟨r_a, q_a, r_p, q_p, -⟩ := HT.out.rules
      have z_a : w.heap.size + 1 < W4.heap.size := (HT.out.in_ 0 rfl rfl).2
      have z_p : w.heap.size < W4.heap.size := (HT.out.in_ 1 rfl rfl).2
      obtain ⟨lb, lc, y0⟩ := at_s8 Hr.out HL.out
      go_wp2_with fail
      refine ⟨trivial, ?_⟩
      refine plan_still ?_
      simp only [pick, List.getElem?_toArray, List.getElem?_cons_succ, List.getElem?_cons_zero]
      repeat still_step
      refine wpStill_nil ?_
      refine plan_loud ?_
      simp only [pick, List.getElem?_toArray, List.getElem?_cons_succ, List.getElem?_cons_zero]
      go_wp2_with fail
      refine (in_is pc ((-1)) (((l.length : Int) - 1)) _ HB4 _).mono ?_
      rintro en w' ⟨rfl, rfl⟩
      go_wp2_with fail
      refine ⟨trivial, ?_⟩
      refine plan_still ?_
      simp only [pick, List.getElem?_toArray, List.getElem?_cons_succ, List.getElem?_cons_zero]
      repeat still_step
      refine wpStill_nil ?_
      refine plan_end (NoPanic.normal ?_)
      clear y0
      clear r_a q_a r_p q_p z_a z_p
      obtain ⟨r_a, q_a, -⟩ := HT.out.rules
      have z_a : w.heap.size + 1 < W4.heap.size := (HT.out.in_ 0 rfl rfl).2
      go_wp2_with fail
      go_loopw [7] (fun i wl5 => ∃ m : Nat, i = .int .i64 m ∧ m ≤ box.length ∧ (∀ (j : Nat) v, j < m → box[j]? = some v → v.k = 2) ∧ St w.heap.size w wl5 [.blk (w.heap.size + 1) #[.int .i64 (k : Nat), .int .i64 par, .int .i64 most, .slice Bo os.length co, .slice Br regs.length cr, .int .i64 pc, .slice Bb box.length cb, .int .i64 fin] 54, .blk w.heap.size #[.slice (some ⟨fb, fo, none⟩) ps.length cp] 26] ∧ RdSl pgE wl5 (Fr 0 [.blk (w.heap.size + 1) #[.int .i64 (k : Nat), .int .i64 par, .int .i64 most, .slice Bo os.length co, .slice Br regs.length cr, .int .i64 pc, .slice Bb box.length cb, .int .i64 fin] 54, .blk w.heap.size #[.slice (some ⟨fb, fo, none⟩) ps.length cp] 26]) (.slice (some ⟨fb, fo, none⟩) ps.length cp) ps ∧ RdSl obE wl5 (Fr 0 [.blk (w.heap.size + 1) #[.int .i64 (k : Nat), .int .i64 par, .int .i64 most, .slice Bo os.length co, .slice Br regs.length cr, .int .i64 pc, .slice Bb box.length cb, .int .i64 fin] 54, .blk w.heap.size #[.slice (some ⟨fb, fo, none⟩) ps.length cp] 26]) (.slice Bo os.length co) os ∧ RdSl vE wl5 (Fr 0 [.blk (w.heap.size + 1) #[.int .i64 (k : Nat), .int .i64 par, .int .i64 most, .slice Bo os.length co, .slice Br regs.length cr, .int .i64 pc, .slice Bb box.length cb, .int .i64 fin] 54, .blk w.heap.size #[.slice (some ⟨fb, fo, none⟩) ps.length cp] 26]) (.slice Br regs.length cr) regs ∧ RdSl vE wl5 (Fr 0 [.blk (w.heap.size + 1) #[.int .i64 (k : Nat), .int .i64 par, .int .i64 most, .slice Bo os.length co, .slice Br regs.length cr, .int .i64 pc, .slice Bb box.length cb, .int .i64 fin] 54, .blk w.heap.size #[.slice (some ⟨fb, fo, none⟩) ps.length cp] 26]) (.slice Bb box.length cb) box ∧ w.heap.size + 1 + 1 ≤ wl5.heap.size) (fun i _ => box.length - (intOf i).toNat)
      case atStart =>
        refine ⟨0, ?_, ?_, ?_, ?_, ?_, ?_, ?_, ?_, ?_⟩
        · rfl
        · exact Nat.zero_le _
        · exact fun j v h => absurd h (by omega)
        · with_reducible exact HT.out
        · with_reducible exact Hr.out
        · with_reducible exact Ho.out
        · with_reducible exact Hg.out
        · with_reducible exact Hx.out
        · exact hz
      case round =>
        generalize wr = wl5 at *
        clear HT Hr Ho Hg Hx hz
        obtain ⟨m, rfl, hm, hok, ht, pHr, pHo, pHg, pHx, hz⟩ := hrel
        have HT := Lib.hid ht
        have Hr : Hid (RdSl pgE wl5 (Fr 0 [.blk (w.heap.size + 1) #[.int .i64 (k : Nat), .int .i64 par, .int .i64 most, .slice Bo os.length co, .slice Br regs.length cr, .int .i64 pc, .slice Bb box.length cb, .int .i64 fin] 54, .blk w.heap.size #[.slice (some ⟨fb, fo, none⟩) ps.length cp] 26]) (.slice (some ⟨fb, fo, none⟩) ps.length cp) ps) := Lib.hid pHr
        have Ho : Hid (RdSl obE wl5 (Fr 0 [.blk (w.heap.size + 1) #[.int .i64 (k : Nat), .int .i64 par, .int .i64 most, .slice Bo os.length co, .slice Br regs.length cr, .int .i64 pc, .slice Bb box.length cb, .int .i64 fin] 54, .blk w.heap.size #[.slice (some ⟨fb, fo, none⟩) ps.length cp] 26]) (.slice Bo os.length co) os) := Lib.hid pHo
        have Hg : Hid (RdSl vE wl5 (Fr 0 [.blk (w.heap.size + 1) #[.int .i64 (k : Nat), .int .i64 par, .int .i64 most, .slice Bo os.length co, .slice Br regs.length cr, .int .i64 pc, .slice Bb box.length cb, .int .i64 fin] 54, .blk w.heap.size #[.slice (some ⟨fb, fo, none⟩) ps.length cp] 26]) (.slice Br regs.length cr) regs) := Lib.hid pHg
        have Hx : Hid (RdSl vE wl5 (Fr 0 [.blk (w.heap.size + 1) #[.int .i64 (k : Nat), .int .i64 par, .int .i64 most, .slice Bo os.length co, .slice Br regs.length cr, .int .i64 pc, .slice Bb box.length cb, .int .i64 fin] 54, .blk w.heap.size #[.slice (some ⟨fb, fo, none⟩) ps.length cp] 26]) (.slice Bb box.length cb) box) := Lib.hid pHx
        clear ht pHr pHo pHg pHx
        have Hm := Lib.hid hok
        clear hok
        obtain ⟨r_a, q_a, -⟩ := HT.out.rules
        have z_a : w.heap.size + 1 < wl5.heap.size := (HT.out.in_ 0 rfl rfl).2
        by_cases hlt : m < box.length
        · obtain ⟨x, hx⟩ : ∃ x, box[m]? = some x := ⟨_, List.getElem?_eq_getElem hlt⟩
          obtain ⟨xb, xo, rfl, -, -, z0, z1⟩ := Hx.out.at_v hx
          have HX := Lib.hid hx
          have i2 : (m : Int) < (box.length : Int) := by omega
          clear hx
          clear r_a q_a z_a
          obtain ⟨r_a, q_a, -⟩ := HT.out.rules
          have z_a : w.heap.size + 1 < wl5.heap.size := (HT.out.in_ 0 rfl rfl).2
          by_cases hk9 : x.k = 2
          · have HN : Hid (∀ (j : Nat) v, j < m + 1 → box[j]? = some v → v.k = 2) := Lib.hid (fun j b hj hb => by
              by_cases hjk : j = m
              · subst hjk; rw [HX.out] at hb; injection hb with hb; rw [← hb]; exact hk9
              · exact Hm.out j b (by omega) hb)
            have e9 : (x.k != 2) = false := by simpa using hk9
            clear hk9
            go_wp2_with fail
            clear z0 z1
            clear r_a q_a z_a
            go_roundw
            case rel =>
              refine ⟨m + 1, ?_, ?_, ?_, ?_, ?_, ?_, ?_, ?_, ?_⟩
              · go_num
              · omega
              · exact HN.out
              · with_reducible exact HT.out
              · with_reducible exact Hr.out
              · with_reducible exact Ho.out
              · with_reducible exact Hg.out
              · with_reducible exact Hx.out
              · exact hz
            case measure => simp [intOf]; omega
          · have e9 : (x.k != 2) = true := by simpa using hk9
            obtain rfl : true = q3 := (any_at HX.out e9).symm.trans HQ3.out
            go_wp2_with fail
            go_ret
            exact ⟨rfl, HT.out.below⟩
        · have i2 : ¬ (m : Int) < (box.length : Int) := by omega
          obtain rfl : false = q3 := by
            rw [← HQ3.out]
            refine (List.any_eq_false.2 fun v hv => ?_).symm
            obtain ⟨j, hj⟩ := List.getElem?_of_mem hv
            simp [Hm.out j v (by have := (List.getElem?_eq_some_iff.1 hj).1; omega) hj]
          clear Hm HQ3
          by_cases hf : fin = 0
          · subst hf
            clear r_a q_a z_a
            obtain ⟨r_a, q_a, -⟩ := HT.out.rules
            have z_a : w.heap.size + 1 < wl5.heap.size := (HT.out.in_ 0 rfl rfl).2
            go_wp2_with fail
            go_ret
            exact ⟨rfl, HT.out.below⟩
          · have ef : (fin == 0) = false := by simpa using hf
            have ef2 : (fin != 0) = true := by simpa using hf
            by_cases ht0 : box.length = 0
            · have t0 : ((box.length : Int) == 0) = true := by simp only [beq_iff_eq]; omega
              by_cases ht1 : os.length = 0
              · have t1 : ((os.length : Int) == 0) = true := by simp only [beq_iff_eq]; omega
                by_cases ht2 : pc = -1
                · have t2 : (pc == (-1 : Int)) = true := by simp only [beq_iff_eq]; omega
                  obtain rfl : true = q4 := (decide_eq_true (by omega)).symm.trans hq4
                  go_wp2_with fail
                  go_ret
                  exact ⟨by first | rfl | (rw [ef]; rfl), HT.out.below⟩
                · have t2 : (pc == (-1 : Int)) = false := by simp only [beq_eq_false_iff_ne, ne_eq]; omega
                  obtain rfl : false = q4 := (decide_eq_false (by omega)).symm.trans hq4
                  go_wp2_with fail
                  go_ret
                  exact ⟨by first | rfl | (rw [ef]; rfl), HT.out.below⟩
              · have t1 : ((os.length : Int) == 0) = false := by simp only [beq_eq_false_iff_ne, ne_eq]; omega
                obtain rfl : false = q4 := (decide_eq_false (by omega)).symm.trans hq4
                go_wp2_with fail
                go_ret
                exact ⟨by first | rfl | (rw [ef]; rfl), HT.out.below⟩
            · have t0 : ((box.length : Int) == 0) = false := by simp only [beq_eq_false_iff_ne, ne_eq]; omega
              obtain rfl : false = q4 := (decide_eq_false (by omega)).symm.trans hq4
              go_wp2_with fail
              go_ret
              exact ⟨by first | rfl | (rw [ef]; rfl), HT.out.below⟩
end
section
open Go.RowKit
theorem tdB_two {n : Nat} {t : Td} : tdB n t = ((decide (0 ≤ t.actor) && decide (t.actor ≤ (n : Int) - 1)) && (decide (-1099511627776 ≤ t.n) && decide (t.n ≤ 1099511627776))) := by
  unfold tdB
  rw [Bool.eq_iff_iff]
  simp only [Bool.and_eq_true, decide_eq_true_eq]
  omega
set_option maxRecDepth 100000 in
set_option maxHeartbeats 8000000 in
theorem worldFault_any (S T U : Nat → Prop) (Ap : Option Addr) (cp : Nat) (ps : List (List Ins)) (A : Option Addr) (c : Nat) (acs : List Ac) (Bp : Option Addr) (d : Nat) (ts : List Td) (w : World) (hr : RdSl pgE w S (.slice Ap ps.length cp) ps) (hq : RdSl acE w T (.slice A acs.length c) acs) (ht : RdSl tdE w U (.slice Bp ts.length d) ts) :
    Calls Tryd.prog 33 #[.agg #[.slice Ap ps.length cp], .agg #[.slice A acs.length c, .slice Bp ts.length d]] w fun e w' => e = .returned (.int .i64 (worldE ps ⟨acs, ts⟩)) ∧ Below w.heap.size w w' := by
  obtain ⟨-, l1, l2, -⟩ := hr.lims
  obtain ⟨-, l3, l4, l5⟩ := hq.lims
  obtain ⟨-, l6, l7, l8⟩ := ht.lims
  have Hr := Lib.hid hr
  have Hq := Lib.hid hq
  have Ht := Lib.hid ht
  clear hr hq ht
  obtain ⟨v1, v2, v3, hv⟩ : ∃ v1 v2 v3, verP ps = (v1, v2, v3) := ⟨_, _, _, rfl⟩
  obtain ⟨q, hq⟩ : ∃ q, decide (acs.length = 0 ∨ 8 < acs.length ∨ 500 < ts.length) = q := ⟨_, rfl⟩
  have hE := worldE_split (acs := acs) (ts := ts) hv
  rw [hq] at hE
  have HE := Lib.hid hE
  have HV := Lib.hid hv
  clear hE hv
  obtain ⟨b1, hb1⟩ : ∃ b, (decide (1 ≤ (acs.length : Int)) && decide ((acs.length : Int) ≤ 8)) = b := ⟨_, rfl⟩
  have HB1 := Lib.hid hb1
  clear hb1
  have T0 : St w.heap.size w (((w.alloc (.cells #[.slice Ap ps.length cp] 26)).alloc (.cells #[.slice A acs.length c, .slice Bp ts.length d] 32))) [.blk (w.heap.size + 1) #[.slice A acs.length c, .slice Bp ts.length d] 32, .blk w.heap.size #[.slice Ap ps.length cp] 26] := ((((St.start w (Nat.le_refl _)).new' #[.slice Ap ps.length cp] 26 (w.heap.size) (by simp)).1).new' #[.slice A acs.length c, .slice Bp ts.length d] 32 (w.heap.size + 1) (by simp)).1
  have HT := Lib.hid T0
  have hz : w.heap.size + 1 + 1 ≤ ((w.alloc (.cells #[.slice Ap ps.length cp] 26)).alloc (.cells #[.slice A acs.length c, .slice Bp ts.length d] 32)).heap.size := by simp
  clear T0
  replace Hr : Hid (RdSl pgE (((w.alloc (.cells #[.slice Ap ps.length cp] 26)).alloc (.cells #[.slice A acs.length c, .slice Bp ts.length d] 32))) (Fr 0 [.blk (w.heap.size + 1) #[.slice A acs.length c, .slice Bp ts.length d] 32, .blk w.heap.size #[.slice Ap ps.length cp] 26]) (.slice Ap ps.length cp) ps) := Lib.hid (RdSl.pool (E := pgE) Hr.out (by show 0 < 1; omega) HT.out)
  replace Hq : Hid (RdSl acE (((w.alloc (.cells #[.slice Ap ps.length cp] 26)).alloc (.cells #[.slice A acs.length c, .slice Bp ts.length d] 32))) (Fr 0 [.blk (w.heap.size + 1) #[.slice A acs.length c, .slice Bp ts.length d] 32, .blk w.heap.size #[.slice Ap ps.length cp] 26]) (.slice A acs.length c) acs) := Lib.hid (RdSl.pool (E := acE) Hq.out (by decide) HT.out)
  replace Ht : Hid (RdSl tdE (((w.alloc (.cells #[.slice Ap ps.length cp] 26)).alloc (.cells #[.slice A acs.length c, .slice Bp ts.length d] 32))) (Fr 0 [.blk (w.heap.size + 1) #[.slice A acs.length c, .slice Bp ts.length d] 32, .blk w.heap.size #[.slice Ap ps.length cp] 26]) (.slice Bp ts.length d) ts) := Lib.hid (RdSl.pool (E := tdE) Ht.out (by decide) HT.out)
  go_enter Tryd.func33, Tryd.ntmps33
  go_upto_region 1 with fail
  generalize ((w.alloc (.cells #[.slice Ap ps.length cp] 26)).alloc (.cells #[.slice A acs.length c, .slice Bp ts.length d] 32)) = W1 at *
  obtain ⟨r_w, q_w, r_p, q_p, -⟩ := HT.out.rules
  have z_w : w.heap.size + 1 < W1.heap.size := (HT.out.in_ 0 rfl rfl).2
  have z_p : w.heap.size < W1.heap.size := (HT.out.in_ 1 rfl rfl).2
  go_wp2_with fail
  have G9 := verifiedOf_any _ Ap cp ps _ Hr.out
  rw [HV.out] at G9
  refine (G9).mono ?_
  rintro en W2 ⟨rfl, hb⟩
  clear r_w q_w r_p q_p z_w z_p
  obtain ⟨T', K'⟩ := HT.out.call hb
  replace HT := Lib.hid T'
  replace Hr := Lib.hid (Hr.out.move (by show 0 < 1; omega) K')
  replace Hq := Lib.hid (Hq.out.move (by decide) K')
  replace Ht := Lib.hid (Ht.out.move (by decide) K')
  clear T' K'
  replace hz : w.heap.size + 1 + 1 ≤ W2.heap.size := Nat.le_trans hz hb.size
  clear hb
  obtain ⟨r_w, q_w, r_p, q_p, -⟩ := HT.out.rules
  have z_w : w.heap.size + 1 < W2.heap.size := (HT.out.in_ 0 rfl rfl).2
  have z_p : w.heap.size < W2.heap.size := (HT.out.in_ 1 rfl rfl).2
  clear G9
  by_cases h3 : v3 = 0
  · subst h3
    go_upto_region 4 with fail
    go_cut [29] from 9 to 74 (fun s9 w9 => s9 = .bool q ∧ w9 = W2)
    case first =>
      go_wp2_with fail
      refine (in_is ((acs.length : Int)) 1 8 _ HB1 _).mono ?_
      rintro en w' ⟨rfl, rfl⟩
      cases b1
      · go_wp2_with fail
        go_meet
        exact ⟨congrArg Value.bool ((decide_eq_true (by have u := HB1.out; simp only [Bool.and_eq_false_iff, decide_eq_false_iff_not] at u; omega)).symm.trans hq), rfl⟩
      · by_cases hh2 : 500 < ts.length
        · have e2 : (500 : Int) < (ts.length : Int) := by omega
          go_wp2_with fail
          go_meet
          exact ⟨congrArg Value.bool ((decide_eq_true (by omega)).symm.trans hq), rfl⟩
        · have e2 : ¬ (500 : Int) < (ts.length : Int) := by omega
          go_wp2_with fail
          go_meet
          first | exact ⟨congrArg Value.bool ((decide_eq_false (by have u := HB1.out; simp only [Bool.and_eq_true, decide_eq_true_eq] at u; omega)).symm.trans hq), rfl⟩ | exact ⟨congrArg Value.bool ((decide_eq_false (show ¬ (500 : Int) < (ts.length : Int) by omega)).trans ((decide_eq_false (by have u := HB1.out; simp only [Bool.and_eq_true, decide_eq_true_eq] at u; omega)).symm.trans hq)), rfl⟩
    case rest =>
    obtain ⟨rfl, hwc⟩ := hcut
    rw [hwc]
    clear hwc HB1
    cases q
    rotate_left
    focus
      go_wp2_with fail
      go_ret
      exact ⟨by rw [HE.out.2.2 (by simp) (fun h => by cases h.1)]; rfl, HT.out.below⟩
    have hc := of_decide_eq_false hq
    have hm1 : acs.length ≤ 8 := by omega
    have hm2 : ts.length ≤ 500 := by omega
    clear hq hc
    clear r_w q_w r_p q_p z_w z_p
    obtain ⟨r_w, q_w, r_p, q_p, -⟩ := HT.out.rules
    have z_w : w.heap.size + 1 < W2.heap.size := (HT.out.in_ 0 rfl rfl).2
    have z_p : w.heap.size < W2.heap.size := (HT.out.in_ 1 rfl rfl).2
    go_wp2_with fail
    go_loopw [8] (fun i wl3 => ∃ k : Nat, i = .int .i64 k ∧ k ≤ acs.length ∧ (∀ (j : Nat) a, j < k → acs[j]? = some a → acB ps j a = true) ∧ St w.heap.size w wl3 [.blk (w.heap.size + 1) #[.slice A acs.length c, .slice Bp ts.length d] 32, .blk w.heap.size #[.slice Ap ps.length cp] 26] ∧ RdSl pgE wl3 (Fr 0 [.blk (w.heap.size + 1) #[.slice A acs.length c, .slice Bp ts.length d] 32, .blk w.heap.size #[.slice Ap ps.length cp] 26]) (.slice Ap ps.length cp) ps ∧ RdSl acE wl3 (Fr 0 [.blk (w.heap.size + 1) #[.slice A acs.length c, .slice Bp ts.length d] 32, .blk w.heap.size #[.slice Ap ps.length cp] 26]) (.slice A acs.length c) acs ∧ RdSl tdE wl3 (Fr 0 [.blk (w.heap.size + 1) #[.slice A acs.length c, .slice Bp ts.length d] 32, .blk w.heap.size #[.slice Ap ps.length cp] 26]) (.slice Bp ts.length d) ts ∧ w.heap.size + 1 + 1 ≤ wl3.heap.size) (fun i _ => acs.length - (intOf i).toNat)
    case atStart =>
      refine ⟨0, ?_, ?_, ?_, ?_, ?_, ?_, ?_, ?_⟩
      · rfl
      · exact Nat.zero_le _
      · exact fun j a h => absurd h (by omega)
      · with_reducible exact HT.out
      · with_reducible exact Hr.out
      · with_reducible exact Hq.out
      · with_reducible exact Ht.out
      · exact hz
    case round =>
      generalize wr = wl3 at *
      clear HT Hr Hq Ht hz
      obtain ⟨k, rfl, hk, hok, ht, pHr, pHq, pHt, hz⟩ := hrel
      have HT := Lib.hid ht
      have Hr : Hid (RdSl pgE wl3 (Fr 0 [.blk (w.heap.size + 1) #[.slice A acs.length c, .slice Bp ts.length d] 32, .blk w.heap.size #[.slice Ap ps.length cp] 26]) (.slice Ap ps.length cp) ps) := Lib.hid pHr
      have Hq : Hid (RdSl acE wl3 (Fr 0 [.blk (w.heap.size + 1) #[.slice A acs.length c, .slice Bp ts.length d] 32, .blk w.heap.size #[.slice Ap ps.length cp] 26]) (.slice A acs.length c) acs) := Lib.hid pHq
      have Ht : Hid (RdSl tdE wl3 (Fr 0 [.blk (w.heap.size + 1) #[.slice A acs.length c, .slice Bp ts.length d] 32, .blk w.heap.size #[.slice Ap ps.length cp] 26]) (.slice Bp ts.length d) ts) := Lib.hid pHt
      clear ht pHr pHq pHt
      have Hk := Lib.hid hok
      clear hok
      obtain ⟨r_w, q_w, r_p, q_p, -⟩ := HT.out.rules
      have z_w : w.heap.size + 1 < wl3.heap.size := (HT.out.in_ 0 rfl rfl).2
      have z_p : w.heap.size < wl3.heap.size := (HT.out.in_ 1 rfl rfl).2
      by_cases hlt : k < acs.length
      · obtain ⟨a, ha⟩ : ∃ a, acs[k]? = some a := ⟨_, List.getElem?_eq_getElem hlt⟩
        obtain ⟨wb, wo, -, -, -, -, -, -, rfl, -, -, -, -, -, -, -, -, -, -, -, -, -⟩ := Hq.out.at_a ha
        have i2 : (k : Int) < (acs.length : Int) := by omega
        have HA := Lib.hid ha
        clear ha
        obtain ⟨Bo, co, Br, cr, Bb, cb, xz, x0, x1, x2, x3, x4, x5, x6, x7, ho, hg, hx⟩ := at_a8 Hq.out HA.out
        have Ho := Lib.hid ho
        have Hg := Lib.hid hg
        have Hx := Lib.hid hx
        clear ho hg hx
        clear r_w q_w r_p q_p z_w z_p
        obtain ⟨r_w, q_w, r_p, q_p, -⟩ := HT.out.rules
        have z_w : w.heap.size + 1 < wl3.heap.size := (HT.out.in_ 0 rfl rfl).2
        have z_p : w.heap.size < wl3.heap.size := (HT.out.in_ 1 rfl rfl).2
        go_wp2_with fail
        obtain ⟨z, hz9⟩ : ∃ z, acB ps k a = z := ⟨_, rfl⟩
        have HZ := Lib.hid hz9
        clear hz9
        refine wp_region_plan [.still [0, 1, 2, 3, 4, 5, 6], .loud 7 [], .still [8]] (by kernel_rfl) (by kernel_rfl) ?_
        refine plan_still ?_
        simp only [pick, List.getElem?_toArray, List.getElem?_cons_succ, List.getElem?_cons_zero]
        repeat still_step
        refine wpStill_nil ?_
        refine plan_loud ?_
        simp only [pick, List.getElem?_toArray, List.getElem?_cons_succ, List.getElem?_cons_zero]
        go_wp2_with fail
        obtain ⟨T', K'⟩ := HT.out.drew'
        replace HT := Lib.hid T'
        replace Hr := Lib.hid (Hr.out.move (by show 0 < 1; omega) K')
        replace Hq := Lib.hid (Hq.out.move (by decide) K')
        replace Ht := Lib.hid (Ht.out.move (by decide) K')
        replace Ho := Lib.hid (Ho.out.move (by decide) K')
        replace Hg := Lib.hid (Hg.out.move (by decide) K')
        replace Hx := Lib.hid (Hx.out.move (by decide) K')
        clear T' K'
        replace hz : w.heap.size + 1 + 1 ≤ wl3.drew.heap.size := hz
        have G9 := actorMay_any _ _ Ap cp ps k (by omega) a Bo Br Bb co cr cb wl3.drew Hr.out Ho.out Hg.out Hx.out
        rw [HZ.out] at G9
        refine (G9).mono ?_
        rintro en W4 ⟨rfl, hb⟩
        clear r_w q_w r_p q_p z_w z_p
        obtain ⟨T', K'⟩ := HT.out.call hb
        replace HT := Lib.hid T'
        replace Hr := Lib.hid (Hr.out.move (by show 0 < 1; omega) K')
        replace Hq := Lib.hid (Hq.out.move (by decide) K')
        replace Ht := Lib.hid (Ht.out.move (by decide) K')
        replace Ho := Lib.hid (Ho.out.move (by decide) K')
        replace Hg := Lib.hid (Hg.out.move (by decide) K')
        replace Hx := Lib.hid (Hx.out.move (by decide) K')
        clear T' K'
        replace hz : w.heap.size + 1 + 1 ≤ W4.heap.size := Nat.le_trans hz hb.size
        clear hb
        obtain ⟨r_w, q_w, r_p, q_p, -⟩ := HT.out.rules
        have z_w : w.heap.size + 1 < W4.heap.size := (HT.out.in_ 0 rfl rfl).2
        have z_p : w.heap.size < W4.heap.size := (HT.out.in_ 1 rfl rfl).2
        clear G9 x0 x1 x2 x3 x4 x5 x6 x7 xz
        clear Ho Hg Hx
        go_wp2_with fail
        refine ⟨trivial, ?_⟩
        refine plan_still ?_
        simp only [pick, List.getElem?_toArray, List.getElem?_cons_succ, List.getElem?_cons_zero]
        repeat still_step
        refine wpStill_nil ?_
        refine plan_end (NoPanic.normal ?_)
        cases z
        · go_wp2_with fail
          go_ret
          exact ⟨by rw [HE.out.2.2 (by simp) (fun h => by have := h.2.1 k a HA.out; rw [HZ.out] at this; cases this)]; rfl, HT.out.below⟩
        · have HN : Hid (∀ (j : Nat) a, j < k + 1 → acs[j]? = some a → acB ps j a = true) := Lib.hid (fun j b hj hb => by
            by_cases hjk : j = k
            · subst hjk; rw [HA.out] at hb; injection hb with hb; rw [← hb]; exact HZ.out
            · exact Hk.out j b (by omega) hb)
          go_wp2_with fail
          clear r_w q_w r_p q_p z_w z_p
          go_roundw
          case rel =>
            refine ⟨k + 1, ?_, ?_, ?_, ?_, ?_, ?_, ?_, ?_⟩
            · go_num
            · omega
            · exact HN.out
            · with_reducible exact HT.out
            · with_reducible exact Hr.out
            · with_reducible exact Hq.out
            · with_reducible exact Ht.out
            · exact hz
          case measure => simp [intOf]; omega
      · have i2 : ¬ (k : Int) < (acs.length : Int) := by omega
        have HK : Hid (∀ (j : Nat) a, acs[j]? = some a → acB ps j a = true) := Lib.hid (fun j b hb => Hk.out j b (by have := (List.getElem?_eq_some_iff.1 hb).1; omega) hb)
        clear Hk
        go_wp2_with fail
        go_loopw [9] (fun i wl5 => ∃ m : Nat, i = .int .i64 m ∧ m ≤ ts.length ∧ (∀ (j : Nat) t, j < m → ts[j]? = some t → tdB acs.length t = true) ∧ St w.heap.size w wl5 [.blk (w.heap.size + 1) #[.slice A acs.length c, .slice Bp ts.length d] 32, .blk w.heap.size #[.slice Ap ps.length cp] 26] ∧ RdSl pgE wl5 (Fr 0 [.blk (w.heap.size + 1) #[.slice A acs.length c, .slice Bp ts.length d] 32, .blk w.heap.size #[.slice Ap ps.length cp] 26]) (.slice Ap ps.length cp) ps ∧ RdSl acE wl5 (Fr 0 [.blk (w.heap.size + 1) #[.slice A acs.length c, .slice Bp ts.length d] 32, .blk w.heap.size #[.slice Ap ps.length cp] 26]) (.slice A acs.length c) acs ∧ RdSl tdE wl5 (Fr 0 [.blk (w.heap.size + 1) #[.slice A acs.length c, .slice Bp ts.length d] 32, .blk w.heap.size #[.slice Ap ps.length cp] 26]) (.slice Bp ts.length d) ts ∧ w.heap.size + 1 + 1 ≤ wl5.heap.size) (fun i _ => ts.length - (intOf i).toNat)
        case atStart =>
          refine ⟨0, ?_, ?_, ?_, ?_, ?_, ?_, ?_, ?_⟩
          · rfl
          · exact Nat.zero_le _
          · exact fun j t h => absurd h (by omega)
          · with_reducible exact HT.out
          · with_reducible exact Hr.out
          · with_reducible exact Hq.out
          · with_reducible exact Ht.out
          · exact hz
        case round =>
          generalize wr = wl5 at *
          clear HT Hr Hq Ht hz
          obtain ⟨m, rfl, hm, hok, ht, pHr, pHq, pHt, hz⟩ := hrel
          have HT := Lib.hid ht
          have Hr : Hid (RdSl pgE wl5 (Fr 0 [.blk (w.heap.size + 1) #[.slice A acs.length c, .slice Bp ts.length d] 32, .blk w.heap.size #[.slice Ap ps.length cp] 26]) (.slice Ap ps.length cp) ps) := Lib.hid pHr
          have Hq : Hid (RdSl acE wl5 (Fr 0 [.blk (w.heap.size + 1) #[.slice A acs.length c, .slice Bp ts.length d] 32, .blk w.heap.size #[.slice Ap ps.length cp] 26]) (.slice A acs.length c) acs) := Lib.hid pHq
          have Ht : Hid (RdSl tdE wl5 (Fr 0 [.blk (w.heap.size + 1) #[.slice A acs.length c, .slice Bp ts.length d] 32, .blk w.heap.size #[.slice Ap ps.length cp] 26]) (.slice Bp ts.length d) ts) := Lib.hid pHt
          clear ht pHr pHq pHt
          have Hm := Lib.hid hok
          clear hok
          obtain ⟨r_w, q_w, r_p, q_p, -⟩ := HT.out.rules
          have z_w : w.heap.size + 1 < wl5.heap.size := (HT.out.in_ 0 rfl rfl).2
          have z_p : w.heap.size < wl5.heap.size := (HT.out.in_ 1 rfl rfl).2
          by_cases hmt : m < ts.length
          · obtain ⟨x, hx⟩ : ∃ x, ts[m]? = some x := ⟨_, List.getElem?_eq_getElem hmt⟩
            obtain ⟨tb, tof, rfl, -, -, y0, y1⟩ := Ht.out.at_t hx
            have HX := Lib.hid hx
            have i3 : (m : Int) < (ts.length : Int) := by omega
            clear hx
            obtain ⟨b2, hb2⟩ : ∃ b, (decide (0 ≤ x.actor) && decide (x.actor ≤ (acs.length : Int) - 1)) = b := ⟨_, rfl⟩
            obtain ⟨b3, hb3⟩ : ∃ b, (decide (-1099511627776 ≤ x.n) && decide (x.n ≤ 1099511627776)) = b := ⟨_, rfl⟩
            have hT : tdB acs.length x = (b2 && b3) := by rw [← hb2, ← hb3]; exact tdB_two
            have HT9 := Lib.hid hT
            have HB2 := Lib.hid hb2
            have HB3 := Lib.hid hb3
            clear hT hb2 hb3
            clear r_w q_w r_p q_p z_w z_p
            obtain ⟨r_w, q_w, r_p, q_p, -⟩ := HT.out.rules
            have z_w : w.heap.size + 1 < wl5.heap.size := (HT.out.in_ 0 rfl rfl).2
            have z_p : w.heap.size < wl5.heap.size := (HT.out.in_ 1 rfl rfl).2
            go_wp2_with fail
            cases b2
            · refine wp_region_plan [.still [0, 1, 2, 3, 4, 5, 6, 7, 8, 9], .loud 10 [], .still [11, 12, 13, 14, 15, 16, 17, 18], .loud 19 [], .still [20, 21]] (by kernel_rfl) (by kernel_rfl) ?_
              refine plan_still ?_
              simp only [pick, List.getElem?_toArray, List.getElem?_cons_succ, List.getElem?_cons_zero]
              repeat still_step
              refine wpStill_nil ?_
              refine plan_loud ?_
              simp only [pick, List.getElem?_toArray, List.getElem?_cons_succ, List.getElem?_cons_zero]
              go_wp2_with fail
              refine (in_is x.actor 0 (((acs.length : Int) - 1)) _ HB2 _).mono ?_
              rintro en w' ⟨rfl, rfl⟩
              go_wp2_with fail
              refine ⟨trivial, ?_⟩
              refine plan_still ?_
              simp only [pick, List.getElem?_toArray, List.getElem?_cons_succ, List.getElem?_cons_zero]
              refine wpStill_step (fun K9 hK9 => ?_)
              go_simp
              iterate 7 (generalize hA9 : (Act.mk _ _) = a9; refine hK9 a9 ?_; clear hK9 K9; refine wpStill_step (fun K9 hK9 => ?_); subst hA9; go_simp)
              generalize hA9 : (Act.mk _ _) = a9
              refine hK9 a9 ?_
              subst hA9
              refine wpStill_nil ?_
              refine plan_loud ?_
              simp only [pick, List.getElem?_toArray, List.getElem?_cons_succ, List.getElem?_cons_zero]
              go_wp2_with fail
              refine ⟨trivial, ?_⟩
              refine plan_still ?_
              simp only [pick, List.getElem?_toArray, List.getElem?_cons_succ, List.getElem?_cons_zero]
              refine wpStill_step (fun K9 hK9 => ?_)
              go_simp
              iterate 1 (generalize hA9 : (Act.mk _ _) = a9; refine hK9 a9 ?_; clear hK9 K9; refine wpStill_step (fun K9 hK9 => ?_); subst hA9; go_simp)
              generalize hA9 : (Act.mk _ _) = a9
              refine hK9 a9 ?_
              subst hA9
              refine wpStill_nil ?_
              refine plan_end (NoPanic.normal ?_)
              obtain ⟨T', K'⟩ := HT.out.drew'
              replace HT := Lib.hid T'
              replace Hr := Lib.hid (Hr.out.move (by show 0 < 1; omega) K')
              replace Hq := Lib.hid (Hq.out.move (by decide) K')
              replace Ht := Lib.hid (Ht.out.move (by decide) K')
              clear T' K'
              replace hz : w.heap.size + 1 + 1 ≤ wl5.drew.heap.size := hz
              go_wp2_with fail
              go_ret
              exact ⟨by rw [HE.out.2.2 (by simp) (fun h => by have := h.2.2 m x HX.out; rw [HT9.out] at this; cases this)]; rfl, HT.out.below⟩
            · cases b3
              · refine wp_region_plan [.still [0, 1, 2, 3, 4, 5, 6, 7, 8, 9], .loud 10 [], .still [11, 12, 13, 14, 15, 16, 17, 18], .loud 19 [], .still [20, 21]] (by kernel_rfl) (by kernel_rfl) ?_
                refine plan_still ?_
                simp only [pick, List.getElem?_toArray, List.getElem?_cons_succ, List.getElem?_cons_zero]
                repeat still_step
                refine wpStill_nil ?_
                refine plan_loud ?_
                simp only [pick, List.getElem?_toArray, List.getElem?_cons_succ, List.getElem?_cons_zero]
                go_wp2_with fail
                refine (in_is x.actor 0 (((acs.length : Int) - 1)) _ HB2 _).mono ?_
                rintro en w' ⟨rfl, rfl⟩
                go_wp2_with fail
                refine ⟨trivial, ?_⟩
                refine plan_still ?_
                simp only [pick, List.getElem?_toArray, List.getElem?_cons_succ, List.getElem?_cons_zero]
                repeat still_step
                refine wpStill_nil ?_
                refine plan_loud ?_
                simp only [pick, List.getElem?_toArray, List.getElem?_cons_succ, List.getElem?_cons_zero]
                go_wp2_with fail
                refine (in_is x.n ((-1099511627776)) 1099511627776 _ HB3 _).mono ?_
                rintro en w' ⟨rfl, rfl⟩
                go_wp2_with fail
                refine ⟨trivial, ?_⟩
                refine plan_still ?_
                simp only [pick, List.getElem?_toArray, List.getElem?_cons_succ, List.getElem?_cons_zero]
                repeat still_step
                refine wpStill_nil ?_
                refine plan_end (NoPanic.normal ?_)
                obtain ⟨T', K'⟩ := HT.out.drew'
                replace HT := Lib.hid T'
                replace Hr := Lib.hid (Hr.out.move (by show 0 < 1; omega) K')
                replace Hq := Lib.hid (Hq.out.move (by decide) K')
                replace Ht := Lib.hid (Ht.out.move (by decide) K')
                clear T' K'
                replace hz : w.heap.size + 1 + 1 ≤ wl5.drew.heap.size := hz
                go_wp2_with fail
                go_ret
                exact ⟨by rw [HE.out.2.2 (by simp) (fun h => by have := h.2.2 m x HX.out; rw [HT9.out] at this; cases this)]; rfl, HT.out.below⟩
              · refine wp_region_plan [.still [0, 1, 2, 3, 4, 5, 6, 7, 8, 9], .loud 10 [], .still [11, 12, 13, 14, 15, 16, 17, 18], .loud 19 [], .still [20, 21]] (by kernel_rfl) (by kernel_rfl) ?_
                refine plan_still ?_
                simp only [pick, List.getElem?_toArray, List.getElem?_cons_succ, List.getElem?_cons_zero]
                repeat still_step
                refine wpStill_nil ?_
                refine plan_loud ?_
                simp only [pick, List.getElem?_toArray, List.getElem?_cons_succ, List.getElem?_cons_zero]
                go_wp2_with fail
                refine (in_is x.actor 0 (((acs.length : Int) - 1)) _ HB2 _).mono ?_
                rintro en w' ⟨rfl, rfl⟩
                go_wp2_with fail
                refine ⟨trivial, ?_⟩
                refine plan_still ?_
                simp only [pick, List.getElem?_toArray, List.getElem?_cons_succ, List.getElem?_cons_zero]
                repeat still_step
                refine wpStill_nil ?_
                refine plan_loud ?_
                simp only [pick, List.getElem?_toArray, List.getElem?_cons_succ, List.getElem?_cons_zero]
                go_wp2_with fail
                refine (in_is x.n ((-1099511627776)) 1099511627776 _ HB3 _).mono ?_
                rintro en w' ⟨rfl, rfl⟩
                go_wp2_with fail
                refine ⟨trivial, ?_⟩
                refine plan_still ?_
                simp only [pick, List.getElem?_toArray, List.getElem?_cons_succ, List.getElem?_cons_zero]
                repeat still_step
                refine wpStill_nil ?_
                refine plan_end (NoPanic.normal ?_)
                obtain ⟨T', K'⟩ := HT.out.drew'
                replace HT := Lib.hid T'
                replace Hr := Lib.hid (Hr.out.move (by show 0 < 1; omega) K')
                replace Hq := Lib.hid (Hq.out.move (by decide) K')
                replace Ht := Lib.hid (Ht.out.move (by decide) K')
                clear T' K'
                replace hz : w.heap.size + 1 + 1 ≤ wl5.drew.heap.size := hz
                have HN : Hid (∀ (j : Nat) t, j < m + 1 → ts[j]? = some t → tdB acs.length t = true) := Lib.hid (fun j b hj hb => by
                  by_cases hjk : j = m
                  · subst hjk; rw [HX.out] at hb; injection hb with hb; rw [← hb]; exact HT9.out
                  · exact Hm.out j b (by omega) hb)
                clear y0 y1
                clear r_w q_w r_p q_p z_w z_p
                obtain ⟨r_w, q_w, r_p, q_p, -⟩ := HT.out.rules
                have z_w : w.heap.size + 1 < wl5.drew.heap.size := (HT.out.in_ 0 rfl rfl).2
                have z_p : w.heap.size < wl5.drew.heap.size := (HT.out.in_ 1 rfl rfl).2
                go_wp2_with fail
                clear r_w q_w r_p q_p z_w z_p
                go_roundw
                case rel =>
                  refine ⟨m + 1, ?_, ?_, ?_, ?_, ?_, ?_, ?_, ?_⟩
                  · go_num
                  · omega
                  · exact HN.out
                  · with_reducible exact HT.out
                  · with_reducible exact Hr.out
                  · with_reducible exact Hq.out
                  · with_reducible exact Ht.out
                  · exact hz
                case measure => simp [intOf]; omega
          · have i4 : ¬ (m : Int) < (ts.length : Int) := by omega
            go_wp2_with fail
            go_ret
            exact ⟨by rw [HE.out.2.1 (by simp) ⟨rfl, HK.out, fun j t hj => Hm.out j t (by have := (List.getElem?_eq_some_iff.1 hj).1; omega) hj⟩]; rfl, HT.out.below⟩
  · have e3 : (v3 != 0) = true := by simpa using h3
    go_wp2_with fail
    go_ret
    exact ⟨by rw [HE.out.1 h3]; rfl, HT.out.below⟩
end
end Go.Proofs.YtabcjdalifhpdaaDoor
