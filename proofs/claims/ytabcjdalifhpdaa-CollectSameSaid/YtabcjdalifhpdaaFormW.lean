/- The walk of treadwheelkeep.Form. Condition: the heap, with the values, may be; they are few. -/
import Derived.Test.YtabcjdalifhpdaaFormQ
import Derived.Test.YtabcjdalifhpdaaAllocOf
namespace Go.Proofs.Ytabcjdalifhpdaa
open Go.RowKit Go.Maps

theorem ics_len (l : List Int) : (cat (ics l)).length = l.length * 1 := by rw [cat_ics]; simp
theorem ics_one (l : List Int) : ∀ u ∈ cat (ics l), u.oneCell' = true := fun u hu => by
  rw [cat_ics] at hu
  obtain ⟨x, _, rfl⟩ := List.mem_map.1 hu
  rfl
theorem ics_app {l m : List Int} : cat (ics l) ++ cat (ics m) = cat (ics (l ++ m)) := by simp [cat_ics]
theorem held_ics {w : World} {S : Nat → Prop} {l : List Int} {css : List (List Value)} (h : Held iE w S css l) : css = ics l := by
  obtain ⟨h1, h2⟩ := h
  apply List.ext_getElem?
  intro i
  simp only [ics, List.getElem?_map]
  cases hx : l[i]? with
  | none =>
    rw [List.getElem?_eq_none (by rw [h1]; exact List.getElem?_eq_none_iff.1 hx)]
    rfl
  | some x =>
    have hi : i < css.length := by rw [h1]; exact (List.getElem?_eq_some_iff.1 hx).1
    rw [List.getElem?_eq_getElem hi]
    exact congrArg some (h2 i x _ hx (List.getElem?_eq_getElem hi)).2
theorem rdI_cells {w : World} {S : Nat → Prop} {A : Option Addr} {n c : Nat} {xs : List Int} (h : RdSl iE w S (.slice A n c) xs) : ∀ ad, A = some ad → ∀ (j : Nat) (u : Value), (cat (ics xs))[j]? = some u → w.cell? (ad.add j) = some u := fun ad hA j u hu => by
  obtain ⟨css, hH, hc⟩ := h.held
  obtain rfl := held_ics hH
  exact hc ad hA j u hu
theorem ics_cell {w : World} {base g n c : Nat} {l : List Int} (h : w.ownsRow base 3 1 (.slice (some ⟨g, 0, none⟩) n c) n (cat (ics l))) {k : Nat} {x : Int} (hx : l[k]? = some x) : w.cell? ⟨g, k, none⟩ = some (.int .i64 x) :=
  own_cell h (by rw [cat_ics, List.getElem?_map, hx]; rfl)
set_option maxRecDepth 100000 in
set_option maxHeartbeats 8000000 in
theorem form_any (m : Int) (S T : Nat → Prop) (A R : Option Addr) (c d : Nat) (os : List Ob) (roots : List V) (w : World) (hr : RdSl obE w S (.slice A os.length c) os) (hq : RdSl vE w T (.slice R roots.length d) roots) (hp : hpB ⟨m, os⟩ roots = true) (hfr : roots.length ≤ 100) :
    Calls Try.prog 10 #[.agg #[.int .i64 m, .slice A os.length c], .slice R roots.length d] w fun e w' => ∃ A' c', e = .returned (.slice A' (formL os roots).length c') ∧ RdSl iE w' (fun b => w.heap.size ≤ b) (.slice A' (formL os roots).length c') (formL os roots) ∧ Below w.heap.size w w' := by
  obtain ⟨-, l1, l2, -⟩ := hr.lims
  obtain ⟨-, l3, l4, -⟩ := hq.lims
  have Hok := Lib.hid (hpB_refs hp)
  have Hsl := Lib.hid (hpB_slim hp)
  have Hr := Lib.hid hr
  have Hq := Lib.hid hq
  clear hr hq hp
  have T0 : St w.heap.size w ((w.alloc (.cells #[.int .i64 m, .slice A os.length c] 25))) [.blk w.heap.size #[.int .i64 m, .slice A os.length c] 25] := ((St.start w (Nat.le_refl _)).new' #[.int .i64 m, .slice A os.length c] 25 (w.heap.size) (by simp)).1
  have HT := Lib.hid T0
  have hz : w.heap.size + 1 ≤ (w.alloc (.cells #[.int .i64 m, .slice A os.length c] 25)).heap.size := by simp
  clear T0
  replace Hr : Hid (RdSl obE ((w.alloc (.cells #[.int .i64 m, .slice A os.length c] 25))) (Fr 0 [.blk w.heap.size #[.int .i64 m, .slice A os.length c] 25]) (.slice A os.length c) os) := Lib.hid (Hr.out.pool (by decide) HT.out)
  replace Hq : Hid (RdSl vE ((w.alloc (.cells #[.int .i64 m, .slice A os.length c] 25))) (Fr 0 [.blk w.heap.size #[.int .i64 m, .slice A os.length c] 25]) (.slice R roots.length d) roots) := Lib.hid (Hq.out.pool (by decide) HT.out)
  go_enter Try.func10, Try.ntmps10
  go_upto_region 1 with fail
  generalize (w.alloc (.cells #[.int .i64 m, .slice A os.length c] 25)) = W1 at *
  obtain ⟨r_h, q_h, -⟩ := HT.out.rules
  have z_h : w.heap.size < W1.heap.size := (HT.out.in_ 0 rfl rfl).2
  have hmm := @run_makeMap Try.prog
  go_upto_region 2 with fail
  obtain ⟨T', K'⟩ := HT.out.new' #[.slice none 0 0] 32 W1.heap.size (by first | (simp; done) | rfl)
  replace HT := Lib.hid T'
  replace Hr := Lib.hid (Hr.out.move (by decide) K')
  replace Hq := Lib.hid (Hq.out.move (by decide) K')
  clear T' K'
  replace hz : w.heap.size + 1 ≤ ((W1.alloc (.cells #[.slice none 0 0] 32))).heap.size := Nat.le_trans hz (by simp)
  clear r_h q_h z_h
  generalize (W1.alloc (.cells #[.slice none 0 0] 32)) = W2 at *
  go_upto_region 3 with fail
  obtain ⟨T', K'⟩ := HT.out.made (w' := W2.alloc (.map #[] 0)) ((Below.refl _ _).alloc (Nat.le_refl _) _) (mapRW Try.prog 3 3 (.int .i64 0) W2.heap.size [] (fun x => .int .i64 (plM 0 [] x))) (MapW.made (plainElem_int Try.underlying3 (a := 0) (by decide))) (fun b hb => by replace hb : b = W2.heap.size := hb; subst hb; simp)
  replace HT := Lib.hid T'
  replace Hr := Lib.hid (Hr.out.move (by decide) K')
  replace Hq := Lib.hid (Hq.out.move (by decide) K')
  replace hz : w.heap.size + 1 ≤ ((W2.alloc (.map #[] 0))).heap.size := Nat.le_trans hz (by simp)
  clear T' K'
  obtain ⟨T', K'⟩ := HT.out.new' #[.map (some W2.heap.size)] 61 (W2.heap.size + 1) (by first | (simp; done) | rfl)
  replace HT := Lib.hid T'
  replace Hr := Lib.hid (Hr.out.move (by decide) K')
  replace Hq := Lib.hid (Hq.out.move (by decide) K')
  clear T' K'
  replace hz : w.heap.size + 1 ≤ (((W2.alloc (.map #[] 0)).alloc (.cells #[.map (some W2.heap.size)] 61))).heap.size := Nat.le_trans hz (by simp)
  generalize ((W2.alloc (.map #[] 0)).alloc (.cells #[.map (some W2.heap.size)] 61)) = W3 at *
  obtain ⟨r_bp, q_bp, r_bo, q_bo, r_h, q_h, -⟩ := HT.out.rules
  have z_bp : W2.heap.size + 1 < W3.heap.size := (HT.out.in_ 0 rfl rfl).2
  have z_bo : W1.heap.size < W3.heap.size := (HT.out.in_ 2 rfl rfl).2
  have z_h : w.heap.size < W3.heap.size := (HT.out.in_ 3 rfl rfl).2
  go_upto_region 5 with fail
  clear hmm
  obtain ⟨T', K'⟩ := HT.out.new' #[.slice none 0 0] 32 W3.heap.size (by first | (simp; done) | rfl)
  replace HT := Lib.hid T'
  replace Hr := Lib.hid (Hr.out.move (by decide) K')
  replace Hq := Lib.hid (Hq.out.move (by decide) K')
  clear T' K'
  replace hz : w.heap.size + 1 ≤ ((W3.alloc (.cells #[.slice none 0 0] 32))).heap.size := Nat.le_trans hz (by simp)
  clear r_bp q_bp r_bo q_bo r_h q_h z_bp z_bo z_h
  generalize (W3.alloc (.cells #[.slice none 0 0] 32)) = W4 at *
  obtain ⟨T', K'⟩ := HT.out.nilRow w.heap.size 3 1
  replace HT := Lib.hid T'
  replace Hr := Lib.hid (Hr.out.move (by decide) K')
  replace Hq := Lib.hid (Hq.out.move (by decide) K')
  clear T' K'
  obtain ⟨T', K'⟩ := HT.out.nilRow w.heap.size 3 1
  replace HT := Lib.hid T'
  replace Hr := Lib.hid (Hr.out.move (by decide) K')
  replace Hq := Lib.hid (Hq.out.move (by decide) K')
  clear T' K'
  obtain ⟨T', K'⟩ := HT.out.perm (.trans (.cons _ (.swap _ _ _)) (.swap _ _ _))
  replace HT := Lib.hid T'
  replace Hr := Lib.hid (Hr.out.move (by decide) K')
  replace Hq := Lib.hid (Hq.out.move (by decide) K')
  clear T' K'
  obtain ⟨T', K'⟩ := HT.out.perm (.trans (.trans (.trans (.cons _ (.cons _ (.cons _ (.swap _ _ _)))) (.cons _ (.cons _ (.swap _ _ _)))) (.cons _ (.swap _ _ _))) (.swap _ _ _))
  replace HT := Lib.hid T'
  replace Hr := Lib.hid (Hr.out.move (by decide) K')
  replace Hq := Lib.hid (Hq.out.move (by decide) K')
  clear T' K'
  obtain ⟨T', K'⟩ := HT.out.perm (.trans (.trans (.trans (.cons _ (.cons _ (.cons _ (.swap _ _ _)))) (.cons _ (.cons _ (.swap _ _ _)))) (.cons _ (.swap _ _ _))) (.swap _ _ _))
  replace HT := Lib.hid T'
  replace Hr := Lib.hid (Hr.out.move (by decide) K')
  replace Hq := Lib.hid (Hq.out.move (by decide) K')
  clear T' K'
  obtain ⟨T', K'⟩ := HT.out.perm (.trans (.trans (.trans (.cons _ (.cons _ (.cons _ (.swap _ _ _)))) (.cons _ (.cons _ (.swap _ _ _)))) (.cons _ (.swap _ _ _))) (.swap _ _ _))
  replace HT := Lib.hid T'
  replace Hr := Lib.hid (Hr.out.move (by decide) K')
  replace Hq := Lib.hid (Hq.out.move (by decide) K')
  clear T' K'
  obtain ⟨T', K'⟩ := HT.out.perm (.trans (.trans (.trans (.trans (.cons _ (.cons _ (.cons _ (.cons _ (.swap _ _ _))))) (.cons _ (.cons _ (.cons _ (.swap _ _ _))))) (.cons _ (.cons _ (.swap _ _ _)))) (.cons _ (.swap _ _ _))) (.swap _ _ _))
  replace HT := Lib.hid T'
  replace Hr := Lib.hid (Hr.out.move (by decide) K')
  replace Hq := Lib.hid (Hq.out.move (by decide) K')
  clear T' K'
  obtain ⟨r_bo, q_bo, r_bp, q_bp, r_bq, q_bq, r_h, q_h, -⟩ := HT.out.rules
  have z_bo : W1.heap.size < W4.heap.size := (HT.out.in_ 0 rfl rfl).2
  have z_bp : W2.heap.size + 1 < W4.heap.size := (HT.out.in_ 2 rfl rfl).2
  have z_bq : W3.heap.size < W4.heap.size := (HT.out.in_ 4 rfl rfl).2
  have z_h : w.heap.size < W4.heap.size := (HT.out.in_ 6 rfl rfl).2
  go_wp2_with fail
  go_loopw [19] (fun i wl5 => ∃ (k : Nat) (Ao : Option Addr) (co : Nat) (Aq : Option Addr) (cq : Nat), i = .int .i64 k ∧ k ≤ roots.length ∧ St w.heap.size w wl5 [.blk W1.heap.size #[.slice Ao (sayOs [] [] (roots.take k)).length co] 32, .row w.heap.size 3 1 (.slice Ao (sayOs [] [] (roots.take k)).length co) ((sayOs [] [] (roots.take k)).length) (cat (ics (sayOs [] [] (roots.take k)))), .blk (W2.heap.size + 1) #[.map (some W2.heap.size)] 61, mapRW Try.prog 3 3 (.int .i64 0) W2.heap.size (sayQs [] (roots.take k)) (fun x => .int .i64 (plM 0 (sayQs [] (roots.take k)) x)), .blk W3.heap.size #[.slice Aq (sayQs [] (roots.take k)).length cq] 32, .row w.heap.size 3 1 (.slice Aq (sayQs [] (roots.take k)).length cq) ((sayQs [] (roots.take k)).length) (cat (ics (sayQs [] (roots.take k)))), .blk w.heap.size #[.int .i64 m, .slice A os.length c] 25] ∧ RdSl obE wl5 (Fr 0 [.blk W1.heap.size #[.slice Ao (sayOs [] [] (roots.take k)).length co] 32, .row w.heap.size 3 1 (.slice Ao (sayOs [] [] (roots.take k)).length co) ((sayOs [] [] (roots.take k)).length) (cat (ics (sayOs [] [] (roots.take k)))), .blk (W2.heap.size + 1) #[.map (some W2.heap.size)] 61, mapRW Try.prog 3 3 (.int .i64 0) W2.heap.size (sayQs [] (roots.take k)) (fun x => .int .i64 (plM 0 (sayQs [] (roots.take k)) x)), .blk W3.heap.size #[.slice Aq (sayQs [] (roots.take k)).length cq] 32, .row w.heap.size 3 1 (.slice Aq (sayQs [] (roots.take k)).length cq) ((sayQs [] (roots.take k)).length) (cat (ics (sayQs [] (roots.take k)))), .blk w.heap.size #[.int .i64 m, .slice A os.length c] 25]) (.slice A os.length c) os ∧ RdSl vE wl5 (Fr 0 [.blk W1.heap.size #[.slice Ao (sayOs [] [] (roots.take k)).length co] 32, .row w.heap.size 3 1 (.slice Ao (sayOs [] [] (roots.take k)).length co) ((sayOs [] [] (roots.take k)).length) (cat (ics (sayOs [] [] (roots.take k)))), .blk (W2.heap.size + 1) #[.map (some W2.heap.size)] 61, mapRW Try.prog 3 3 (.int .i64 0) W2.heap.size (sayQs [] (roots.take k)) (fun x => .int .i64 (plM 0 (sayQs [] (roots.take k)) x)), .blk W3.heap.size #[.slice Aq (sayQs [] (roots.take k)).length cq] 32, .row w.heap.size 3 1 (.slice Aq (sayQs [] (roots.take k)).length cq) ((sayQs [] (roots.take k)).length) (cat (ics (sayQs [] (roots.take k)))), .blk w.heap.size #[.int .i64 m, .slice A os.length c] 25]) (.slice R roots.length d) roots ∧ w.heap.size + 1 ≤ wl5.heap.size) (fun i _ => roots.length - (intOf i).toNat)
  case atStart =>
    refine ⟨0, none, 0, none, 0, ?_, ?_, ?_, ?_, ?_, ?_⟩
    · rfl
    · exact Nat.zero_le _
    · exact HT.out
    · exact Hr.out
    · exact Hq.out
    · exact hz
  case round =>
    generalize wr = wl5 at *
    clear HT Hr Hq hz
    obtain ⟨k, Ao, co, Aq, cq, rfl, hk, ht, pHr, pHq, hz⟩ := hrel
    have HT := Lib.hid ht
    have Hr : Hid (RdSl obE wl5 (Fr 0 [.blk W1.heap.size #[.slice Ao (sayOs [] [] (roots.take k)).length co] 32, .row w.heap.size 3 1 (.slice Ao (sayOs [] [] (roots.take k)).length co) ((sayOs [] [] (roots.take k)).length) (cat (ics (sayOs [] [] (roots.take k)))), .blk (W2.heap.size + 1) #[.map (some W2.heap.size)] 61, mapRW Try.prog 3 3 (.int .i64 0) W2.heap.size (sayQs [] (roots.take k)) (fun x => .int .i64 (plM 0 (sayQs [] (roots.take k)) x)), .blk W3.heap.size #[.slice Aq (sayQs [] (roots.take k)).length cq] 32, .row w.heap.size 3 1 (.slice Aq (sayQs [] (roots.take k)).length cq) ((sayQs [] (roots.take k)).length) (cat (ics (sayQs [] (roots.take k)))), .blk w.heap.size #[.int .i64 m, .slice A os.length c] 25]) (.slice A os.length c) os) := Lib.hid pHr
    have Hq : Hid (RdSl vE wl5 (Fr 0 [.blk W1.heap.size #[.slice Ao (sayOs [] [] (roots.take k)).length co] 32, .row w.heap.size 3 1 (.slice Ao (sayOs [] [] (roots.take k)).length co) ((sayOs [] [] (roots.take k)).length) (cat (ics (sayOs [] [] (roots.take k)))), .blk (W2.heap.size + 1) #[.map (some W2.heap.size)] 61, mapRW Try.prog 3 3 (.int .i64 0) W2.heap.size (sayQs [] (roots.take k)) (fun x => .int .i64 (plM 0 (sayQs [] (roots.take k)) x)), .blk W3.heap.size #[.slice Aq (sayQs [] (roots.take k)).length cq] 32, .row w.heap.size 3 1 (.slice Aq (sayQs [] (roots.take k)).length cq) ((sayQs [] (roots.take k)).length) (cat (ics (sayQs [] (roots.take k)))), .blk w.heap.size #[.int .i64 m, .slice A os.length c] 25]) (.slice R roots.length d) roots) := Lib.hid pHq
    clear ht pHr pHq
    have ho9 := sayOs_len (roots.take k) [] []
    have hq9 := (sayQs_told (l := roots.take k) Told.nil (fun v hv => Hok.out.roots v (List.mem_of_mem_take hv))).len
    have hfew := Hok.out.few
    rw [List.length_take, Nat.min_eq_left hk] at ho9
    simp only [List.length_nil, Nat.zero_add] at ho9
    have HO9 := Lib.hid ho9
    clear ho9
    obtain ⟨r_bo, q_bo, r_bp, q_bp, r_bq, q_bq, -⟩ := HT.out.rules
    have z_bo : W1.heap.size < wl5.heap.size := (HT.out.in_ 0 rfl rfl).2
    have z_bp : W2.heap.size + 1 < wl5.heap.size := (HT.out.in_ 2 rfl rfl).2
    have z_bq : W3.heap.size < wl5.heap.size := (HT.out.in_ 4 rfl rfl).2
    by_cases hlt : k < roots.length
    · obtain ⟨x, hx⟩ : ∃ x, roots[k]? = some x := ⟨_, List.getElem?_eq_getElem hlt⟩
      obtain ⟨fb, fo, rfl, -, -, y0, y1⟩ := Hq.out.at_v hx
      have HX := Lib.hid hx
      have i2 : (k : Int) < (roots.length : Int) := by omega
      clear hx
      clear r_bo q_bo r_bp q_bp r_bq q_bq z_bo z_bp z_bq
      obtain ⟨r_bo, q_bo, r_bp, q_bp, r_bq, q_bq, -⟩ := HT.out.rules
      have z_bo : W1.heap.size < wl5.heap.size := (HT.out.in_ 0 rfl rfl).2
      have z_bp : W2.heap.size + 1 < wl5.heap.size := (HT.out.in_ 2 rfl rfl).2
      have z_bq : W3.heap.size < wl5.heap.size := (HT.out.in_ 4 rfl rfl).2
      go_upto_region 8 with fail
      clear y0 y1
      obtain ⟨T', K'⟩ := HT.out.new' #[.int .i64 x.k, .int .i64 x.n] 30 wl5.heap.size (by first | (simp; done) | rfl)
      replace HT := Lib.hid T'
      replace Hr := Lib.hid (Hr.out.move (by decide) K')
      replace Hq := Lib.hid (Hq.out.move (by decide) K')
      clear T' K'
      replace hz : w.heap.size + 1 ≤ ((wl5.alloc (.cells #[.int .i64 x.k, .int .i64 x.n] 30))).heap.size := Nat.le_trans hz (by simp)
      clear r_bo q_bo r_bp q_bp r_bq q_bq z_bo z_bp z_bq
      generalize (wl5.alloc (.cells #[.int .i64 x.k, .int .i64 x.n] 30)) = W6 at *
      obtain ⟨r_x, q_x, r_bo, q_bo, r_bp, q_bp, r_bq, q_bq, -⟩ := HT.out.rules
      have z_x : wl5.heap.size < W6.heap.size := (HT.out.in_ 0 rfl rfl).2
      have z_bo : W1.heap.size < W6.heap.size := (HT.out.in_ 1 rfl rfl).2
      have z_bp : W2.heap.size + 1 < W6.heap.size := (HT.out.in_ 3 rfl rfl).2
      have z_bq : W3.heap.size < W6.heap.size := (HT.out.in_ 5 rfl rfl).2
      go_wp2_with fail
      obtain ⟨T', K'⟩ := HT.out.perm (.trans (.trans (.trans (.trans (.trans (.cons _ (.cons _ (.cons _ (.cons _ (.cons _ (.swap _ _ _)))))) (.cons _ (.cons _ (.cons _ (.cons _ (.swap _ _ _)))))) (.cons _ (.cons _ (.cons _ (.swap _ _ _))))) (.cons _ (.cons _ (.swap _ _ _)))) (.cons _ (.swap _ _ _))) (.swap _ _ _))
      replace HT := Lib.hid T'
      replace Hr := Lib.hid (Hr.out.move (by decide) K')
      replace Hq := Lib.hid (Hq.out.move (by decide) K')
      clear T' K'
      obtain ⟨T', K'⟩ := HT.out.perm (.trans (.trans (.trans (.trans (.trans (.cons _ (.cons _ (.cons _ (.cons _ (.cons _ (.swap _ _ _)))))) (.cons _ (.cons _ (.cons _ (.cons _ (.swap _ _ _)))))) (.cons _ (.cons _ (.cons _ (.swap _ _ _))))) (.cons _ (.cons _ (.swap _ _ _)))) (.cons _ (.swap _ _ _))) (.swap _ _ _))
      replace HT := Lib.hid T'
      replace Hr := Lib.hid (Hr.out.move (by decide) K')
      replace Hq := Lib.hid (Hq.out.move (by decide) K')
      clear T' K'
      obtain ⟨T', K'⟩ := HT.out.perm (.trans (.trans (.trans (.trans (.trans (.cons _ (.cons _ (.cons _ (.cons _ (.cons _ (.swap _ _ _)))))) (.cons _ (.cons _ (.cons _ (.cons _ (.swap _ _ _)))))) (.cons _ (.cons _ (.cons _ (.swap _ _ _))))) (.cons _ (.cons _ (.swap _ _ _)))) (.cons _ (.swap _ _ _))) (.swap _ _ _))
      replace HT := Lib.hid T'
      replace Hr := Lib.hid (Hr.out.move (by decide) K')
      replace Hq := Lib.hid (Hq.out.move (by decide) K')
      clear T' K'
      obtain ⟨T', K'⟩ := HT.out.perm (.trans (.trans (.trans (.trans (.trans (.cons _ (.cons _ (.cons _ (.cons _ (.cons _ (.swap _ _ _)))))) (.cons _ (.cons _ (.cons _ (.cons _ (.swap _ _ _)))))) (.cons _ (.cons _ (.cons _ (.swap _ _ _))))) (.cons _ (.cons _ (.swap _ _ _)))) (.cons _ (.swap _ _ _))) (.swap _ _ _))
      replace HT := Lib.hid T'
      replace Hr := Lib.hid (Hr.out.move (by decide) K')
      replace Hq := Lib.hid (Hq.out.move (by decide) K')
      clear T' K'
      obtain ⟨T', K'⟩ := HT.out.perm (.trans (.trans (.trans (.trans (.trans (.cons _ (.cons _ (.cons _ (.cons _ (.cons _ (.swap _ _ _)))))) (.cons _ (.cons _ (.cons _ (.cons _ (.swap _ _ _)))))) (.cons _ (.cons _ (.cons _ (.swap _ _ _))))) (.cons _ (.cons _ (.swap _ _ _)))) (.cons _ (.swap _ _ _))) (.swap _ _ _))
      replace HT := Lib.hid T'
      replace Hr := Lib.hid (Hr.out.move (by decide) K')
      replace Hq := Lib.hid (Hq.out.move (by decide) K')
      clear T' K'
      obtain ⟨T', K'⟩ := HT.out.perm (.trans (.trans (.trans (.trans (.trans (.cons _ (.cons _ (.cons _ (.cons _ (.cons _ (.swap _ _ _)))))) (.cons _ (.cons _ (.cons _ (.cons _ (.swap _ _ _)))))) (.cons _ (.cons _ (.cons _ (.swap _ _ _))))) (.cons _ (.cons _ (.swap _ _ _)))) (.cons _ (.swap _ _ _))) (.swap _ _ _))
      replace HT := Lib.hid T'
      replace Hr := Lib.hid (Hr.out.move (by decide) K')
      replace Hq := Lib.hid (Hq.out.move (by decide) K')
      clear T' K'
      refine (say_any w.heap.size w W6 [.blk wl5.heap.size #[.int .i64 x.k, .int .i64 x.n] 30, .blk w.heap.size #[.int .i64 m, .slice A os.length c] 25] W1.heap.size (W2.heap.size + 1) W3.heap.size W2.heap.size Ao Aq co cq (sayOs [] [] (roots.take k)) (sayQs [] (roots.take k)) x (fun hk => by have := Hok.out.roots x (List.mem_of_getElem? HX.out) hk; omega) (by rw [HO9.out]; omega) (by omega) HT.out).mono ?_
      rintro en W7 ⟨rfl, Ao', co', Aq', cq', hT, hK, hs⟩
      clear r_x q_x r_bo q_bo r_bp q_bp r_bq q_bq z_x z_bo z_bp z_bq
      have K' := hK
      replace HT := Lib.hid hT
      replace Hr := Lib.hid (Hr.out.move (by decide) K')
      replace Hq := Lib.hid (Hq.out.move (by decide) K')
      replace hz : w.heap.size + 1 ≤ W7.heap.size := Nat.le_trans hz hs
      clear K' hK hT hs
      obtain ⟨T', K'⟩ := HT.out.drop 6
      simp only [List.eraseIdx_cons_succ, List.eraseIdx_cons_zero] at T' K'
      replace HT := Lib.hid T'
      replace Hr := Lib.hid (Hr.out.move (by decide) K')
      replace Hq := Lib.hid (Hq.out.move (by decide) K')
      clear T' K'
      obtain ⟨r_bo, q_bo, r_bp, q_bp, r_bq, q_bq, -⟩ := HT.out.rules
      have z_bo : W1.heap.size < W7.heap.size := (HT.out.in_ 0 rfl rfl).2
      have z_bp : W2.heap.size + 1 < W7.heap.size := (HT.out.in_ 2 rfl rfl).2
      have z_bq : W3.heap.size < W7.heap.size := (HT.out.in_ 4 rfl rfl).2
      go_wp2_with fail
      obtain ⟨e1, e2⟩ := say_take HX.out [] []
      have ht9 := HT.out
      have hr9 := Hr.out
      have hq8 := Hq.out
      rw [← e1, ← e2] at ht9 hr9 hq8
      replace HT := Lib.hid ht9
      replace Hr := Lib.hid hr9
      replace Hq := Lib.hid hq8
      clear ht9 hr9 hq8 e1 e2
      clear r_bo q_bo r_bp q_bp r_bq q_bq z_bo z_bp z_bq
      go_roundw
      case rel =>
        refine ⟨k + 1, Ao', co', Aq', cq', ?_, ?_, ?_, ?_, ?_, ?_⟩
        · go_num
        · omega
        · with_reducible exact HT.out
        · with_reducible exact Hr.out
        · with_reducible exact Hq.out
        · exact hz
      case measure => simp [intOf]; omega
    · have hkk : k = roots.length := by omega
      subst hkk
      have ht9 := HT.out
      have hr9 := Hr.out
      have hq8 := Hq.out
      rw [List.take_length] at ht9 hr9 hq8
      replace HT := Lib.hid ht9
      replace Hr := Lib.hid hr9
      clear ht9 hr9 hq8 Hq hk hlt HO9 hq9
      have i2 : ¬ (roots.length : Int) < (roots.length : Int) := by omega
      clear r_bo q_bo r_bp q_bp r_bq q_bq z_bo z_bp z_bq
      obtain ⟨r_bo, q_bo, r_bp, q_bp, r_bq, q_bq, -⟩ := HT.out.rules
      have z_bo : W1.heap.size < wl5.heap.size := (HT.out.in_ 0 rfl rfl).2
      have z_bp : W2.heap.size + 1 < wl5.heap.size := (HT.out.in_ 2 rfl rfl).2
      have z_bq : W3.heap.size < wl5.heap.size := (HT.out.in_ 4 rfl rfl).2
      go_wp2_with fail
      go_loopw [11] (fun i wl8 => ∃ (k : Nat) (out ord : List Int) (Ao : Option Addr) (co : Nat) (Aq : Option Addr) (cq : Nat), i = .int .i64 k ∧ FormI os roots k out ord ∧ St w.heap.size w wl8 [.blk W1.heap.size #[.slice Ao out.length co] 32, .row w.heap.size 3 1 (.slice Ao out.length co) out.length (cat (ics out)), .blk (W2.heap.size + 1) #[.map (some W2.heap.size)] 61, mapRW Try.prog 3 3 (.int .i64 0) W2.heap.size ord (fun x => .int .i64 (plM 0 ord x)), .blk W3.heap.size #[.slice Aq ord.length cq] 32, .row w.heap.size 3 1 (.slice Aq ord.length cq) ord.length (cat (ics ord)), .blk w.heap.size #[.int .i64 m, .slice A os.length c] 25] ∧ RdSl obE wl8 (Fr 0 [.blk W1.heap.size #[.slice Ao out.length co] 32, .row w.heap.size 3 1 (.slice Ao out.length co) out.length (cat (ics out)), .blk (W2.heap.size + 1) #[.map (some W2.heap.size)] 61, mapRW Try.prog 3 3 (.int .i64 0) W2.heap.size ord (fun x => .int .i64 (plM 0 ord x)), .blk W3.heap.size #[.slice Aq ord.length cq] 32, .row w.heap.size 3 1 (.slice Aq ord.length cq) ord.length (cat (ics ord)), .blk w.heap.size #[.int .i64 m, .slice A os.length c] 25]) (.slice A os.length c) os ∧ w.heap.size + 1 ≤ wl8.heap.size) (fun i _ => os.length + 1 - (intOf i).toNat)
      case atStart =>
        refine ⟨0, sayOs [] [] roots, sayQs [] roots, Ao, co, Aq, cq, ?_, ?_, ?_, ?_, ?_⟩
        · rfl
        · exact FormI.start Hok.out.roots
        · with_reducible exact HT.out
        · with_reducible exact Hr.out
        · exact hz
      case round =>
        generalize wr = wl8 at *
        clear HT Hr hz
        obtain ⟨k, out, ord, Ao, co, Aq, cq, rfl, hI, ht, pHr, hz⟩ := hrel
        have HT := Lib.hid ht
        have Hr : Hid (RdSl obE wl8 (Fr 0 [.blk W1.heap.size #[.slice Ao out.length co] 32, .row w.heap.size 3 1 (.slice Ao out.length co) out.length (cat (ics out)), .blk (W2.heap.size + 1) #[.map (some W2.heap.size)] 61, mapRW Try.prog 3 3 (.int .i64 0) W2.heap.size ord (fun x => .int .i64 (plM 0 ord x)), .blk W3.heap.size #[.slice Aq ord.length cq] 32, .row w.heap.size 3 1 (.slice Aq ord.length cq) ord.length (cat (ics ord)), .blk w.heap.size #[.int .i64 m, .slice A os.length c] 25]) (.slice A os.length c) os) := Lib.hid pHr
        clear ht pHr
        have hol := hI.len
        have hle := hI.le
        have hot := hI.told.len
        have hfew := Hok.out.few
        have HI := Lib.hid hI
        clear hI
        obtain ⟨r_bo, q_bo, r_bp, q_bp, r_bq, q_bq, r_h, q_h, -⟩ := HT.out.rules
        have z_bo : W1.heap.size < wl8.heap.size := (HT.out.in_ 0 rfl rfl).2
        have z_bp : W2.heap.size + 1 < wl8.heap.size := (HT.out.in_ 2 rfl rfl).2
        have z_bq : W3.heap.size < wl8.heap.size := (HT.out.in_ 4 rfl rfl).2
        have z_h : w.heap.size < wl8.heap.size := (HT.out.in_ 6 rfl rfl).2
        by_cases hlt : k < ord.length
        · obtain ⟨x, hx⟩ : ∃ x, ord[k]? = some x := ⟨_, List.getElem?_eq_getElem hlt⟩
          have hxw := HI.out.told.within x (List.mem_of_getElem? hx)
          obtain ⟨j, rfl⟩ := Int.eq_ofNat_of_zero_le hxw.1
          have hj : j < os.length := by omega
          obtain ⟨ob, hob⟩ : ∃ ob, os[j]? = some ob := ⟨_, List.getElem?_eq_getElem hj⟩
          obtain ⟨pb, po, Bf, df, rfl, -, -, y1, y2, hfd⟩ := Hr.out.at_o hob
          obtain ⟨gq, rfl, -⟩ := own_pos (HT.out.own 5 rfl) (by omega)
          have hfo : fieldsOf os (j : Int) = ob.fields := by unfold fieldsOf; rw [Int.toNat_natCast, hob]
          have HN := Lib.hid (HI.out.next Hsl.out Hok.out.fields hx)
          have HFO := Lib.hid hfo
          have h4 := Hsl.out ob (List.mem_of_getElem? hob)
          have HFR := Lib.hid (Hok.out.fields ob (List.mem_of_getElem? hob))
          have Hfd := Lib.hid hfd
          have y0 := ics_cell (HT.out.own 5 rfl) hx
          have i1 : (0 : Int) ≤ (k : Int) := by omega
          have i2 : (k : Int) < (ord.length : Int) := by omega
          have i3 : (0 : Int) ≤ (j : Int) := by omega
          have i4 : (j : Int) < (os.length : Int) := by omega
          clear hx hob hfo hfd hxw
          clear r_bo q_bo r_bp q_bp r_bq q_bq r_h q_h z_bo z_bp z_bq z_h
          obtain ⟨r_bo, q_bo, r_bp, q_bp, r_bq, q_bq, r_h, q_h, -⟩ := HT.out.rules
          have z_bo : W1.heap.size < wl8.heap.size := (HT.out.in_ 0 rfl rfl).2
          have z_bp : W2.heap.size + 1 < wl8.heap.size := (HT.out.in_ 2 rfl rfl).2
          have z_bq : W3.heap.size < wl8.heap.size := (HT.out.in_ 4 rfl rfl).2
          have z_h : w.heap.size < wl8.heap.size := (HT.out.in_ 6 rfl rfl).2
          go_upto_region 13 with fail
          refine wp_region_plan [.still [0, 1, 2, 3, 4, 5, 6, 7], .loud 8 [0, 1, 2, 3, 4, 5, 6, 7], .loud 9 []] (by kernel_rfl) (by kernel_rfl) ?_
          refine plan_still ?_
          simp only [pick, List.getElem?_toArray, List.getElem?_cons_succ, List.getElem?_cons_zero]
          repeat still_step
          refine wpStill_nil ?_
          refine plan_loud ?_
          simp only [pick, List.getElem?_toArray, List.getElem?_cons_succ, List.getElem?_cons_zero]
          go_wp2_with fail
          obtain ⟨T', K'⟩ := HT.out.new' #[.slice none 0 0, .bool false] 41 wl8.heap.size (by first | (simp; done) | rfl)
          replace HT := Lib.hid T'
          replace Hr := Lib.hid (Hr.out.move (by decide) K')
          replace Hfd := Lib.hid (Hfd.out.move (by decide) K')
          clear T' K'
          replace hz : w.heap.size + 1 ≤ ((wl8.alloc (.cells #[.slice none 0 0, .bool false] 41))).heap.size := Nat.le_trans hz (by simp)
          replace y0 := cell_al y0 (.cells #[.slice none 0 0, .bool false] 41)
          replace y1 := cell_al y1 (.cells #[.slice none 0 0, .bool false] 41)
          replace y2 := cell_al y2 (.cells #[.slice none 0 0, .bool false] 41)
          clear r_bo q_bo r_bp q_bp r_bq q_bq r_h q_h z_bo z_bp z_bq z_h
          generalize (wl8.alloc (.cells #[.slice none 0 0, .bool false] 41)) = W9 at *
          obtain ⟨r_o, q_o, r_bo, q_bo, r_bp, q_bp, r_bq, q_bq, r_h, q_h, -⟩ := HT.out.rules
          have z_o : wl8.heap.size < W9.heap.size := (HT.out.in_ 0 rfl rfl).2
          have z_bo : W1.heap.size < W9.heap.size := (HT.out.in_ 1 rfl rfl).2
          have z_bp : W2.heap.size + 1 < W9.heap.size := (HT.out.in_ 3 rfl rfl).2
          have z_bq : W3.heap.size < W9.heap.size := (HT.out.in_ 5 rfl rfl).2
          have z_h : w.heap.size < W9.heap.size := (HT.out.in_ 7 rfl rfl).2
          refine ⟨?_, ?_⟩
          · simp only [Again, pick, List.getElem?_toArray, List.getElem?_cons_succ, List.getElem?_cons_zero]
            refine ⟨?_, ?_, ?_, ?_, ?_, ?_, ?_, ?_, trivial⟩
            all_goals (still_step; exact wpStill_nil rfl)
          refine plan_loud ?_
          simp only [pick, List.getElem?_toArray, List.getElem?_cons_succ, List.getElem?_cons_zero]
          go_wp2_with fail
          clear r_o q_o r_bo q_bo r_bp q_bp r_bq q_bq r_h q_h z_o z_bo z_bp z_bq z_h
          obtain ⟨T', K'⟩ := HT.out.put2 0 (.slice Bf ob.fields.length df) (.bool ob.dead) rfl rfl
          simp only [List.set_cons_zero] at T' K'
          replace HT := Lib.hid T'
          replace Hr := Lib.hid (Hr.out.move (by decide) K')
          replace Hfd := Lib.hid (Hfd.out.move (by decide) K')
          clear T' K'
          replace hz : w.heap.size + 1 ≤ (((W9.setCell ⟨wl8.heap.size, 0, none⟩ (.slice Bf ob.fields.length df)).setCell ⟨wl8.heap.size, 1, none⟩ (.bool ob.dead))).heap.size := by simpa using hz
          generalize (W9.setCell ⟨wl8.heap.size, 0, none⟩ (.slice Bf ob.fields.length df)).setCell ⟨wl8.heap.size, 1, none⟩ (.bool ob.dead) = W10 at *
          refine ⟨trivial, ?_⟩
          refine plan_end (NoPanic.normal ?_)
          obtain ⟨T', K'⟩ := HT.out.drew'
          replace HT := Lib.hid T'
          replace Hr := Lib.hid (Hr.out.move (by decide) K')
          replace Hfd := Lib.hid (Hfd.out.move (by decide) K')
          clear T' K'
          replace hz : w.heap.size + 1 ≤ W10.drew.heap.size := hz
          generalize W10.drew = W11 at *
          clear y0 y1 y2
          obtain ⟨r_o, q_o, r_bo, q_bo, r_bp, q_bp, r_bq, q_bq, r_h, q_h, -⟩ := HT.out.rules
          have z_o : wl8.heap.size < W11.heap.size := (HT.out.in_ 0 rfl rfl).2
          have z_bo : W1.heap.size < W11.heap.size := (HT.out.in_ 1 rfl rfl).2
          have z_bp : W2.heap.size + 1 < W11.heap.size := (HT.out.in_ 3 rfl rfl).2
          have z_bq : W3.heap.size < W11.heap.size := (HT.out.in_ 5 rfl rfl).2
          have z_h : w.heap.size < W11.heap.size := (HT.out.in_ 7 rfl rfl).2
          obtain ⟨T', K'⟩ := HT.out.new' #[.int .i64 (-1), .int .i64 ob.fields.length] 3 W11.heap.size (by first | (simp; done) | rfl)
          replace HT := Lib.hid T'
          replace Hr := Lib.hid (Hr.out.move (by decide) K')
          replace Hfd := Lib.hid (Hfd.out.move (by decide) K')
          clear T' K'
          replace hz : w.heap.size + 1 ≤ ((W11.alloc (.cells #[.int .i64 (-1), .int .i64 ob.fields.length] 3))).heap.size := Nat.le_trans hz (by simp)
          have hnn : RdSl iE (W11.alloc (.cells #[.int .i64 (-1), .int .i64 ob.fields.length] 3)) (fun _ => True) (.slice (some ⟨W11.heap.size, 0, none⟩) 2 2) [-1, (ob.fields.length : Int)] := rd_lit (E := iE) (css := ics [-1, (ob.fields.length : Int)]) (HT.out.heap 0 rfl) trivial (ics_held _) rfl (by show 2 * 8 ≤ 140737488355328; decide) (by show 2 ≤ maxLen; decide) 2 rfl
          have HNN := Lib.hid hnn
          clear hnn
          go_wp2_with (at_builtin; go_loud (refine wpList_append_stx rfl (.tmp 41) (.tmp 45) _ rfl (e := 3) (size := 1) (bytes := 8) Try.underlying32 infoI rfl (by omega) HT.out 3 rfl rfl (some ⟨W11.heap.size, 0, none⟩) 2 2 (cat (ics ([-1, (ob.fields.length : Int)]))) rfl (ics_len _) (rdI_cells HNN.out) (fun h => by cases h) (ics_one _) (by unfold maxLen; omega) (by omega) HT.out.base ?next))
          case next =>
            intro A12 c13 W14 T' K' hs3
            try rw [ics_app] at T' K'
            clear r_o q_o r_bo q_bo r_bp q_bp r_bq q_bq r_h q_h z_o z_bo z_bp z_bq z_h
            replace T' : St w.heap.size w W14 [.blk W11.heap.size #[.int .i64 (-1), .int .i64 ob.fields.length] 3, .blk wl8.heap.size #[.slice Bf ob.fields.length df, .bool ob.dead] 41, .blk W1.heap.size #[.slice Ao out.length co] 32, .row w.heap.size 3 1 (.slice A12 (out.length + 2) c13) (out.length + 2) (cat (ics (out ++ [-1, (ob.fields.length : Int)]))), .blk (W2.heap.size + 1) #[.map (some W2.heap.size)] 61, mapRW Try.prog 3 3 (.int .i64 0) W2.heap.size ord (fun x => .int .i64 (plM 0 ord x)), .blk W3.heap.size #[.slice (some ⟨gq, 0, none⟩) ord.length cq] 32, .row w.heap.size 3 1 (.slice (some ⟨gq, 0, none⟩) ord.length cq) ord.length (cat (ics ord)), .blk w.heap.size #[.int .i64 m, .slice (some ⟨pb, po, none⟩) os.length c] 25] := T'
            replace K' : Keeps ((W11.alloc (.cells #[.int .i64 (-1), .int .i64 ob.fields.length] 3))) [.blk W11.heap.size #[.int .i64 (-1), .int .i64 ob.fields.length] 3, .blk wl8.heap.size #[.slice Bf ob.fields.length df, .bool ob.dead] 41, .blk W1.heap.size #[.slice Ao out.length co] 32, .row w.heap.size 3 1 (.slice Ao out.length co) out.length (cat (ics out)), .blk (W2.heap.size + 1) #[.map (some W2.heap.size)] 61, mapRW Try.prog 3 3 (.int .i64 0) W2.heap.size ord (fun x => .int .i64 (plM 0 ord x)), .blk W3.heap.size #[.slice (some ⟨gq, 0, none⟩) ord.length cq] 32, .row w.heap.size 3 1 (.slice (some ⟨gq, 0, none⟩) ord.length cq) ord.length (cat (ics ord)), .blk w.heap.size #[.int .i64 m, .slice (some ⟨pb, po, none⟩) os.length c] 25] W14 [.blk W11.heap.size #[.int .i64 (-1), .int .i64 ob.fields.length] 3, .blk wl8.heap.size #[.slice Bf ob.fields.length df, .bool ob.dead] 41, .blk W1.heap.size #[.slice Ao out.length co] 32, .row w.heap.size 3 1 (.slice A12 (out.length + 2) c13) (out.length + 2) (cat (ics (out ++ [-1, (ob.fields.length : Int)]))), .blk (W2.heap.size + 1) #[.map (some W2.heap.size)] 61, mapRW Try.prog 3 3 (.int .i64 0) W2.heap.size ord (fun x => .int .i64 (plM 0 ord x)), .blk W3.heap.size #[.slice (some ⟨gq, 0, none⟩) ord.length cq] 32, .row w.heap.size 3 1 (.slice (some ⟨gq, 0, none⟩) ord.length cq) ord.length (cat (ics ord)), .blk w.heap.size #[.int .i64 m, .slice (some ⟨pb, po, none⟩) os.length c] 25] := K'
            replace HT := Lib.hid T'
            replace Hr := Lib.hid (Hr.out.move (by decide) K')
            replace Hfd := Lib.hid (Hfd.out.move (by decide) K')
            replace hz : w.heap.size + 1 ≤ W14.heap.size := Nat.le_trans (by simpa using hz) hs3
            clear T' K'
            clear HNN
            obtain ⟨T', K'⟩ := HT.out.drop 0
            simp only [List.eraseIdx_cons_zero] at T' K'
            replace HT := Lib.hid T'
            replace Hr := Lib.hid (Hr.out.move (by decide) K')
            replace Hfd := Lib.hid (Hfd.out.move (by decide) K')
            clear T' K'
            obtain ⟨r_o, q_o, r_bo, q_bo, r_bp, q_bp, r_bq, q_bq, r_h, q_h, -⟩ := HT.out.rules
            have z_o : wl8.heap.size < W14.heap.size := (HT.out.in_ 0 rfl rfl).2
            have z_bo : W1.heap.size < W14.heap.size := (HT.out.in_ 1 rfl rfl).2
            have z_bp : W2.heap.size + 1 < W14.heap.size := (HT.out.in_ 3 rfl rfl).2
            have z_bq : W3.heap.size < W14.heap.size := (HT.out.in_ 5 rfl rfl).2
            have z_h : w.heap.size < W14.heap.size := (HT.out.in_ 7 rfl rfl).2
            go_upto_region 15 with fail
            clear r_o q_o r_bo q_bo r_bp q_bp r_bq q_bq r_h q_h z_o z_bo z_bp z_bq z_h
            obtain ⟨T', K'⟩ := HT.out.put 1 0 (.slice A12 (out.length + 2) c13) rfl
            simp only [List.set_cons_succ, List.set_cons_zero, List.setIfInBounds_toArray] at T' K'
            replace HT := Lib.hid T'
            replace Hr := Lib.hid (Hr.out.move (by decide) K')
            replace Hfd := Lib.hid (Hfd.out.move (by decide) K')
            clear T' K'
            replace hz : w.heap.size + 1 ≤ ((W14.setCell ⟨W1.heap.size, 0, none⟩ (.slice A12 (out.length + 2) c13))).heap.size := by simpa using hz
            generalize W14.setCell ⟨W1.heap.size, 0, none⟩ (.slice A12 (out.length + 2) c13) = W15 at *
            obtain ⟨o1, ho1⟩ : ∃ o1, out ++ [-1, (ob.fields.length : Int)] = o1 := ⟨_, rfl⟩
            have hol1 : out.length + 2 = o1.length := by rw [← ho1]; simp
            have ht9 := HT.out
            have p9Hr := Hr.out
            have p9Hfd := Hfd.out
            rw [ho1, hol1] at ht9 p9Hr p9Hfd
            replace HT := Lib.hid ht9
            replace Hr := Lib.hid p9Hr
            replace Hfd := Lib.hid p9Hfd
            clear ht9 p9Hr p9Hfd
            have HO1 := Lib.hid ho1
            have hob1 : o1.length ≤ 2 * roots.length + 10 * k + 2 := by omega
            clear ho1 hol1
            obtain ⟨T', K'⟩ := HT.out.perm (.trans (.trans (.trans (.trans (.trans (.cons _ (.cons _ (.cons _ (.cons _ (.cons _ (.swap _ _ _)))))) (.cons _ (.cons _ (.cons _ (.cons _ (.swap _ _ _)))))) (.cons _ (.cons _ (.cons _ (.swap _ _ _))))) (.cons _ (.cons _ (.swap _ _ _)))) (.cons _ (.swap _ _ _))) (.swap _ _ _))
            replace HT := Lib.hid T'
            replace Hr := Lib.hid (Hr.out.move (by decide) K')
            replace Hfd := Lib.hid (Hfd.out.move (by decide) K')
            clear T' K'
            obtain ⟨T', K'⟩ := HT.out.perm (.trans (.trans (.trans (.trans (.trans (.cons _ (.cons _ (.cons _ (.cons _ (.cons _ (.swap _ _ _)))))) (.cons _ (.cons _ (.cons _ (.cons _ (.swap _ _ _)))))) (.cons _ (.cons _ (.cons _ (.swap _ _ _))))) (.cons _ (.cons _ (.swap _ _ _)))) (.cons _ (.swap _ _ _))) (.swap _ _ _))
            replace HT := Lib.hid T'
            replace Hr := Lib.hid (Hr.out.move (by decide) K')
            replace Hfd := Lib.hid (Hfd.out.move (by decide) K')
            clear T' K'
            obtain ⟨T', K'⟩ := HT.out.perm (.trans (.trans (.trans (.trans (.trans (.cons _ (.cons _ (.cons _ (.cons _ (.cons _ (.swap _ _ _)))))) (.cons _ (.cons _ (.cons _ (.cons _ (.swap _ _ _)))))) (.cons _ (.cons _ (.cons _ (.swap _ _ _))))) (.cons _ (.cons _ (.swap _ _ _)))) (.cons _ (.swap _ _ _))) (.swap _ _ _))
            replace HT := Lib.hid T'
            replace Hr := Lib.hid (Hr.out.move (by decide) K')
            replace Hfd := Lib.hid (Hfd.out.move (by decide) K')
            clear T' K'
            obtain ⟨T', K'⟩ := HT.out.perm (.trans (.trans (.trans (.trans (.trans (.cons _ (.cons _ (.cons _ (.cons _ (.cons _ (.swap _ _ _)))))) (.cons _ (.cons _ (.cons _ (.cons _ (.swap _ _ _)))))) (.cons _ (.cons _ (.cons _ (.swap _ _ _))))) (.cons _ (.cons _ (.swap _ _ _)))) (.cons _ (.swap _ _ _))) (.swap _ _ _))
            replace HT := Lib.hid T'
            replace Hr := Lib.hid (Hr.out.move (by decide) K')
            replace Hfd := Lib.hid (Hfd.out.move (by decide) K')
            clear T' K'
            obtain ⟨T', K'⟩ := HT.out.perm (.trans (.trans (.trans (.trans (.trans (.cons _ (.cons _ (.cons _ (.cons _ (.cons _ (.swap _ _ _)))))) (.cons _ (.cons _ (.cons _ (.cons _ (.swap _ _ _)))))) (.cons _ (.cons _ (.cons _ (.swap _ _ _))))) (.cons _ (.cons _ (.swap _ _ _)))) (.cons _ (.swap _ _ _))) (.swap _ _ _))
            replace HT := Lib.hid T'
            replace Hr := Lib.hid (Hr.out.move (by decide) K')
            replace Hfd := Lib.hid (Hfd.out.move (by decide) K')
            clear T' K'
            obtain ⟨T', K'⟩ := HT.out.perm (.trans (.trans (.trans (.trans (.trans (.cons _ (.cons _ (.cons _ (.cons _ (.cons _ (.swap _ _ _)))))) (.cons _ (.cons _ (.cons _ (.cons _ (.swap _ _ _)))))) (.cons _ (.cons _ (.cons _ (.swap _ _ _))))) (.cons _ (.cons _ (.swap _ _ _)))) (.cons _ (.swap _ _ _))) (.swap _ _ _))
            replace HT := Lib.hid T'
            replace Hr := Lib.hid (Hr.out.move (by decide) K')
            replace Hfd := Lib.hid (Hfd.out.move (by decide) K')
            clear T' K'
            obtain ⟨r_bo, q_bo, r_bp, q_bp, r_bq, q_bq, r_o, q_o, r_h, q_h, -⟩ := HT.out.rules
            have z_bo : W1.heap.size < W15.heap.size := (HT.out.in_ 0 rfl rfl).2
            have z_bp : W2.heap.size + 1 < W15.heap.size := (HT.out.in_ 2 rfl rfl).2
            have z_bq : W3.heap.size < W15.heap.size := (HT.out.in_ 4 rfl rfl).2
            have z_o : wl8.heap.size < W15.heap.size := (HT.out.in_ 6 rfl rfl).2
            have z_h : w.heap.size < W15.heap.size := (HT.out.in_ 7 rfl rfl).2
            go_wp2_with fail
            go_loopw [50] (fun i wl16 => ∃ (q : Nat) (Ao : Option Addr) (co : Nat) (Aq : Option Addr) (cq : Nat), i = .int .i64 q ∧ q ≤ ob.fields.length ∧ St w.heap.size w wl16 [.blk W1.heap.size #[.slice Ao (sayOs o1 ord (ob.fields.take q)).length co] 32, .row w.heap.size 3 1 (.slice Ao (sayOs o1 ord (ob.fields.take q)).length co) ((sayOs o1 ord (ob.fields.take q)).length) (cat (ics (sayOs o1 ord (ob.fields.take q)))), .blk (W2.heap.size + 1) #[.map (some W2.heap.size)] 61, mapRW Try.prog 3 3 (.int .i64 0) W2.heap.size (sayQs ord (ob.fields.take q)) (fun x => .int .i64 (plM 0 (sayQs ord (ob.fields.take q)) x)), .blk W3.heap.size #[.slice Aq (sayQs ord (ob.fields.take q)).length cq] 32, .row w.heap.size 3 1 (.slice Aq (sayQs ord (ob.fields.take q)).length cq) ((sayQs ord (ob.fields.take q)).length) (cat (ics (sayQs ord (ob.fields.take q)))), .blk wl8.heap.size #[.slice Bf ob.fields.length df, .bool ob.dead] 41, .blk w.heap.size #[.int .i64 m, .slice (some ⟨pb, po, none⟩) os.length c] 25] ∧ RdSl obE wl16 (Fr 0 [.blk W1.heap.size #[.slice Ao (sayOs o1 ord (ob.fields.take q)).length co] 32, .row w.heap.size 3 1 (.slice Ao (sayOs o1 ord (ob.fields.take q)).length co) ((sayOs o1 ord (ob.fields.take q)).length) (cat (ics (sayOs o1 ord (ob.fields.take q)))), .blk (W2.heap.size + 1) #[.map (some W2.heap.size)] 61, mapRW Try.prog 3 3 (.int .i64 0) W2.heap.size (sayQs ord (ob.fields.take q)) (fun x => .int .i64 (plM 0 (sayQs ord (ob.fields.take q)) x)), .blk W3.heap.size #[.slice Aq (sayQs ord (ob.fields.take q)).length cq] 32, .row w.heap.size 3 1 (.slice Aq (sayQs ord (ob.fields.take q)).length cq) ((sayQs ord (ob.fields.take q)).length) (cat (ics (sayQs ord (ob.fields.take q)))), .blk wl8.heap.size #[.slice Bf ob.fields.length df, .bool ob.dead] 41, .blk w.heap.size #[.int .i64 m, .slice (some ⟨pb, po, none⟩) os.length c] 25]) (.slice (some ⟨pb, po, none⟩) os.length c) os ∧ RdSl vE wl16 (Fr 0 [.blk W1.heap.size #[.slice Ao (sayOs o1 ord (ob.fields.take q)).length co] 32, .row w.heap.size 3 1 (.slice Ao (sayOs o1 ord (ob.fields.take q)).length co) ((sayOs o1 ord (ob.fields.take q)).length) (cat (ics (sayOs o1 ord (ob.fields.take q)))), .blk (W2.heap.size + 1) #[.map (some W2.heap.size)] 61, mapRW Try.prog 3 3 (.int .i64 0) W2.heap.size (sayQs ord (ob.fields.take q)) (fun x => .int .i64 (plM 0 (sayQs ord (ob.fields.take q)) x)), .blk W3.heap.size #[.slice Aq (sayQs ord (ob.fields.take q)).length cq] 32, .row w.heap.size 3 1 (.slice Aq (sayQs ord (ob.fields.take q)).length cq) ((sayQs ord (ob.fields.take q)).length) (cat (ics (sayQs ord (ob.fields.take q)))), .blk wl8.heap.size #[.slice Bf ob.fields.length df, .bool ob.dead] 41, .blk w.heap.size #[.int .i64 m, .slice (some ⟨pb, po, none⟩) os.length c] 25]) (.slice Bf ob.fields.length df) ob.fields ∧ w.heap.size + 1 ≤ wl16.heap.size) (fun i _ => ob.fields.length - (intOf i).toNat)
            case atStart =>
              refine ⟨0, A12, c13, some ⟨gq, 0, none⟩, cq, ?_, ?_, ?_, ?_, ?_, ?_⟩
              · rfl
              · exact Nat.zero_le _
              · exact HT.out
              · exact Hr.out
              · exact Hfd.out
              · exact hz
            case round =>
              generalize wr = wl16 at *
              clear HT Hr Hfd hz
              obtain ⟨q, Ao, co, Aq, cq, rfl, hq, ht, pHr, pHfd, hz⟩ := hrel
              have HT := Lib.hid ht
              have Hr : Hid (RdSl obE wl16 (Fr 0 [.blk W1.heap.size #[.slice Ao (sayOs o1 ord (ob.fields.take q)).length co] 32, .row w.heap.size 3 1 (.slice Ao (sayOs o1 ord (ob.fields.take q)).length co) ((sayOs o1 ord (ob.fields.take q)).length) (cat (ics (sayOs o1 ord (ob.fields.take q)))), .blk (W2.heap.size + 1) #[.map (some W2.heap.size)] 61, mapRW Try.prog 3 3 (.int .i64 0) W2.heap.size (sayQs ord (ob.fields.take q)) (fun x => .int .i64 (plM 0 (sayQs ord (ob.fields.take q)) x)), .blk W3.heap.size #[.slice Aq (sayQs ord (ob.fields.take q)).length cq] 32, .row w.heap.size 3 1 (.slice Aq (sayQs ord (ob.fields.take q)).length cq) ((sayQs ord (ob.fields.take q)).length) (cat (ics (sayQs ord (ob.fields.take q)))), .blk wl8.heap.size #[.slice Bf ob.fields.length df, .bool ob.dead] 41, .blk w.heap.size #[.int .i64 m, .slice (some ⟨pb, po, none⟩) os.length c] 25]) (.slice (some ⟨pb, po, none⟩) os.length c) os) := Lib.hid pHr
              have Hfd : Hid (RdSl vE wl16 (Fr 0 [.blk W1.heap.size #[.slice Ao (sayOs o1 ord (ob.fields.take q)).length co] 32, .row w.heap.size 3 1 (.slice Ao (sayOs o1 ord (ob.fields.take q)).length co) ((sayOs o1 ord (ob.fields.take q)).length) (cat (ics (sayOs o1 ord (ob.fields.take q)))), .blk (W2.heap.size + 1) #[.map (some W2.heap.size)] 61, mapRW Try.prog 3 3 (.int .i64 0) W2.heap.size (sayQs ord (ob.fields.take q)) (fun x => .int .i64 (plM 0 (sayQs ord (ob.fields.take q)) x)), .blk W3.heap.size #[.slice Aq (sayQs ord (ob.fields.take q)).length cq] 32, .row w.heap.size 3 1 (.slice Aq (sayQs ord (ob.fields.take q)).length cq) ((sayQs ord (ob.fields.take q)).length) (cat (ics (sayQs ord (ob.fields.take q)))), .blk wl8.heap.size #[.slice Bf ob.fields.length df, .bool ob.dead] 41, .blk w.heap.size #[.int .i64 m, .slice (some ⟨pb, po, none⟩) os.length c] 25]) (.slice Bf ob.fields.length df) ob.fields) := Lib.hid pHfd
              clear ht pHr pHfd
              have ho9 := sayOs_len (ob.fields.take q) o1 ord
              have hq9 := (sayQs_told (l := ob.fields.take q) HI.out.told (fun v hv => HFR.out v (List.mem_of_mem_take hv))).len
              rw [List.length_take, Nat.min_eq_left hq] at ho9
              have HO9 := Lib.hid ho9
              clear ho9
              obtain ⟨r_bo, q_bo, r_bp, q_bp, r_bq, q_bq, r_o, q_o, -⟩ := HT.out.rules
              have z_bo : W1.heap.size < wl16.heap.size := (HT.out.in_ 0 rfl rfl).2
              have z_bp : W2.heap.size + 1 < wl16.heap.size := (HT.out.in_ 2 rfl rfl).2
              have z_bq : W3.heap.size < wl16.heap.size := (HT.out.in_ 4 rfl rfl).2
              have z_o : wl8.heap.size < wl16.heap.size := (HT.out.in_ 6 rfl rfl).2
              by_cases hqt : q < ob.fields.length
              · obtain ⟨x, hx⟩ : ∃ x, ob.fields[q]? = some x := ⟨_, List.getElem?_eq_getElem hqt⟩
                obtain ⟨fb, fo, rfl, -, -, y0, y1⟩ := Hfd.out.at_v hx
                have HX := Lib.hid hx
                have i5 : (q : Int) < (ob.fields.length : Int) := by omega
                clear hx
                clear r_bo q_bo r_bp q_bp r_bq q_bq r_o q_o z_bo z_bp z_bq z_o
                obtain ⟨r_bo, q_bo, r_bp, q_bp, r_bq, q_bq, r_o, q_o, -⟩ := HT.out.rules
                have z_bo : W1.heap.size < wl16.heap.size := (HT.out.in_ 0 rfl rfl).2
                have z_bp : W2.heap.size + 1 < wl16.heap.size := (HT.out.in_ 2 rfl rfl).2
                have z_bq : W3.heap.size < wl16.heap.size := (HT.out.in_ 4 rfl rfl).2
                have z_o : wl8.heap.size < wl16.heap.size := (HT.out.in_ 6 rfl rfl).2
                go_upto_region 18 with fail
                clear y0 y1
                obtain ⟨T', K'⟩ := HT.out.new' #[.int .i64 x.k, .int .i64 x.n] 30 wl16.heap.size (by first | (simp; done) | rfl)
                replace HT := Lib.hid T'
                replace Hr := Lib.hid (Hr.out.move (by decide) K')
                replace Hfd := Lib.hid (Hfd.out.move (by decide) K')
                clear T' K'
                replace hz : w.heap.size + 1 ≤ ((wl16.alloc (.cells #[.int .i64 x.k, .int .i64 x.n] 30))).heap.size := Nat.le_trans hz (by simp)
                clear r_bo q_bo r_bp q_bp r_bq q_bq r_o q_o z_bo z_bp z_bq z_o
                generalize (wl16.alloc (.cells #[.int .i64 x.k, .int .i64 x.n] 30)) = W17 at *
                obtain ⟨r_x, q_x, r_bo, q_bo, r_bp, q_bp, r_bq, q_bq, -⟩ := HT.out.rules
                have z_x : wl16.heap.size < W17.heap.size := (HT.out.in_ 0 rfl rfl).2
                have z_bo : W1.heap.size < W17.heap.size := (HT.out.in_ 1 rfl rfl).2
                have z_bp : W2.heap.size + 1 < W17.heap.size := (HT.out.in_ 3 rfl rfl).2
                have z_bq : W3.heap.size < W17.heap.size := (HT.out.in_ 5 rfl rfl).2
                go_wp2_with fail
                obtain ⟨T', K'⟩ := HT.out.perm (.trans (.trans (.trans (.trans (.trans (.cons _ (.cons _ (.cons _ (.cons _ (.cons _ (.swap _ _ _)))))) (.cons _ (.cons _ (.cons _ (.cons _ (.swap _ _ _)))))) (.cons _ (.cons _ (.cons _ (.swap _ _ _))))) (.cons _ (.cons _ (.swap _ _ _)))) (.cons _ (.swap _ _ _))) (.swap _ _ _))
                replace HT := Lib.hid T'
                replace Hr := Lib.hid (Hr.out.move (by decide) K')
                replace Hfd := Lib.hid (Hfd.out.move (by decide) K')
                clear T' K'
                obtain ⟨T', K'⟩ := HT.out.perm (.trans (.trans (.trans (.trans (.trans (.cons _ (.cons _ (.cons _ (.cons _ (.cons _ (.swap _ _ _)))))) (.cons _ (.cons _ (.cons _ (.cons _ (.swap _ _ _)))))) (.cons _ (.cons _ (.cons _ (.swap _ _ _))))) (.cons _ (.cons _ (.swap _ _ _)))) (.cons _ (.swap _ _ _))) (.swap _ _ _))
                replace HT := Lib.hid T'
                replace Hr := Lib.hid (Hr.out.move (by decide) K')
                replace Hfd := Lib.hid (Hfd.out.move (by decide) K')
                clear T' K'
                obtain ⟨T', K'⟩ := HT.out.perm (.trans (.trans (.trans (.trans (.trans (.cons _ (.cons _ (.cons _ (.cons _ (.cons _ (.swap _ _ _)))))) (.cons _ (.cons _ (.cons _ (.cons _ (.swap _ _ _)))))) (.cons _ (.cons _ (.cons _ (.swap _ _ _))))) (.cons _ (.cons _ (.swap _ _ _)))) (.cons _ (.swap _ _ _))) (.swap _ _ _))
                replace HT := Lib.hid T'
                replace Hr := Lib.hid (Hr.out.move (by decide) K')
                replace Hfd := Lib.hid (Hfd.out.move (by decide) K')
                clear T' K'
                obtain ⟨T', K'⟩ := HT.out.perm (.trans (.trans (.trans (.trans (.trans (.cons _ (.cons _ (.cons _ (.cons _ (.cons _ (.swap _ _ _)))))) (.cons _ (.cons _ (.cons _ (.cons _ (.swap _ _ _)))))) (.cons _ (.cons _ (.cons _ (.swap _ _ _))))) (.cons _ (.cons _ (.swap _ _ _)))) (.cons _ (.swap _ _ _))) (.swap _ _ _))
                replace HT := Lib.hid T'
                replace Hr := Lib.hid (Hr.out.move (by decide) K')
                replace Hfd := Lib.hid (Hfd.out.move (by decide) K')
                clear T' K'
                obtain ⟨T', K'⟩ := HT.out.perm (.trans (.trans (.trans (.trans (.trans (.cons _ (.cons _ (.cons _ (.cons _ (.cons _ (.swap _ _ _)))))) (.cons _ (.cons _ (.cons _ (.cons _ (.swap _ _ _)))))) (.cons _ (.cons _ (.cons _ (.swap _ _ _))))) (.cons _ (.cons _ (.swap _ _ _)))) (.cons _ (.swap _ _ _))) (.swap _ _ _))
                replace HT := Lib.hid T'
                replace Hr := Lib.hid (Hr.out.move (by decide) K')
                replace Hfd := Lib.hid (Hfd.out.move (by decide) K')
                clear T' K'
                obtain ⟨T', K'⟩ := HT.out.perm (.trans (.trans (.trans (.trans (.trans (.cons _ (.cons _ (.cons _ (.cons _ (.cons _ (.swap _ _ _)))))) (.cons _ (.cons _ (.cons _ (.cons _ (.swap _ _ _)))))) (.cons _ (.cons _ (.cons _ (.swap _ _ _))))) (.cons _ (.cons _ (.swap _ _ _)))) (.cons _ (.swap _ _ _))) (.swap _ _ _))
                replace HT := Lib.hid T'
                replace Hr := Lib.hid (Hr.out.move (by decide) K')
                replace Hfd := Lib.hid (Hfd.out.move (by decide) K')
                clear T' K'
                refine (say_any w.heap.size w W17 [.blk wl16.heap.size #[.int .i64 x.k, .int .i64 x.n] 30, .blk wl8.heap.size #[.slice (some ⟨fb, fo, none⟩) ob.fields.length df, .bool ob.dead] 41, .blk w.heap.size #[.int .i64 m, .slice (some ⟨pb, po, none⟩) os.length c] 25] W1.heap.size (W2.heap.size + 1) W3.heap.size W2.heap.size Ao Aq co cq (sayOs o1 ord (ob.fields.take q)) (sayQs ord (ob.fields.take q)) x (fun hk => by have := HFR.out x (List.mem_of_getElem? HX.out) hk; omega) (by rw [HO9.out]; omega) (by omega) HT.out).mono ?_
                rintro en W18 ⟨rfl, Ao', co', Aq', cq', hT, hK, hs⟩
                clear r_x q_x r_bo q_bo r_bp q_bp r_bq q_bq z_x z_bo z_bp z_bq
                have K' := hK
                replace HT := Lib.hid hT
                replace Hr := Lib.hid (Hr.out.move (by decide) K')
                replace Hfd := Lib.hid (Hfd.out.move (by decide) K')
                replace hz : w.heap.size + 1 ≤ W18.heap.size := Nat.le_trans hz hs
                clear K' hK hT hs
                obtain ⟨T', K'⟩ := HT.out.drop 6
                simp only [List.eraseIdx_cons_succ, List.eraseIdx_cons_zero] at T' K'
                replace HT := Lib.hid T'
                replace Hr := Lib.hid (Hr.out.move (by decide) K')
                replace Hfd := Lib.hid (Hfd.out.move (by decide) K')
                clear T' K'
                obtain ⟨r_bo, q_bo, r_bp, q_bp, r_bq, q_bq, -⟩ := HT.out.rules
                have z_bo : W1.heap.size < W18.heap.size := (HT.out.in_ 0 rfl rfl).2
                have z_bp : W2.heap.size + 1 < W18.heap.size := (HT.out.in_ 2 rfl rfl).2
                have z_bq : W3.heap.size < W18.heap.size := (HT.out.in_ 4 rfl rfl).2
                go_wp2_with fail
                obtain ⟨e1, e2⟩ := say_take HX.out o1 ord
                have ht9 := HT.out
                have p9Hr := Hr.out
                have p9Hfd := Hfd.out
                rw [← e1, ← e2] at ht9 p9Hr p9Hfd
                replace HT := Lib.hid ht9
                replace Hr := Lib.hid p9Hr
                replace Hfd := Lib.hid p9Hfd
                clear ht9 e1 e2 p9Hr p9Hfd
                clear r_bo q_bo r_bp q_bp r_bq q_bq z_bo z_bp z_bq
                go_roundw
                case rel =>
                  refine ⟨q + 1, Ao', co', Aq', cq', ?_, ?_, ?_, ?_, ?_, ?_⟩
                  · go_num
                  · omega
                  · with_reducible exact HT.out
                  · with_reducible exact Hr.out
                  · with_reducible exact Hfd.out
                  · exact hz
                case measure => simp [intOf]; omega
              · have hqq : q = ob.fields.length := by omega
                subst hqq
                have ht9 := HT.out
                have hr9 := Hr.out
                rw [List.take_length] at ht9 hr9
                replace HT := Lib.hid ht9
                replace Hr := Lib.hid hr9
                clear ht9 hr9 Hfd hq hqt HO9 hq9
                have i6 : ¬ (ob.fields.length : Int) < (ob.fields.length : Int) := by omega
                have hn9 := HN.out
                rw [HFO.out, HO1.out] at hn9
                replace HN := Lib.hid hn9
                clear hn9
                clear r_bo q_bo r_bp q_bp r_bq q_bq r_o q_o z_bo z_bp z_bq z_o
                obtain ⟨r_bo, q_bo, r_bp, q_bp, r_bq, q_bq, r_o, q_o, -⟩ := HT.out.rules
                have z_bo : W1.heap.size < wl16.heap.size := (HT.out.in_ 0 rfl rfl).2
                have z_bp : W2.heap.size + 1 < wl16.heap.size := (HT.out.in_ 2 rfl rfl).2
                have z_bq : W3.heap.size < wl16.heap.size := (HT.out.in_ 4 rfl rfl).2
                have z_o : wl8.heap.size < wl16.heap.size := (HT.out.in_ 6 rfl rfl).2
                go_wp2_with fail
                clear r_bo q_bo r_bp q_bp r_bq q_bq r_o q_o z_bo z_bp z_bq z_o
                obtain ⟨T', K'⟩ := HT.out.drop 6
                simp only [List.eraseIdx_cons_succ, List.eraseIdx_cons_zero] at T' K'
                replace HT := Lib.hid T'
                replace Hr := Lib.hid (Hr.out.move (by decide) K')
                clear T' K'
                obtain ⟨r_bo, q_bo, r_bp, q_bp, r_bq, q_bq, -⟩ := HT.out.rules
                have z_bo : W1.heap.size < wl16.heap.size := (HT.out.in_ 0 rfl rfl).2
                have z_bp : W2.heap.size + 1 < wl16.heap.size := (HT.out.in_ 2 rfl rfl).2
                have z_bq : W3.heap.size < wl16.heap.size := (HT.out.in_ 4 rfl rfl).2
                clear r_bo q_bo r_bp q_bp r_bq q_bq z_bo z_bp z_bq
                go_roundw
                case rel =>
                  refine ⟨k + 1, sayOs o1 ord ob.fields, sayQs ord ob.fields, Ao, co, Aq, cq, ?_, ?_, ?_, ?_, ?_⟩
                  · go_num
                  · exact HN.out
                  · with_reducible exact HT.out
                  · with_reducible exact Hr.out
                  · exact hz
                case measure => simp [intOf]; omega
        · have hF := HI.out.done hlt
          have i4 : ¬ (k : Int) < (ord.length : Int) := by omega
          go_wp2_with fail
          go_ret
          rw [← hF]
          exact ⟨_, _, rfl, HT.out.rdRow (E := iE) (n := w.heap.size) 1 rfl rfl rfl (ics_held out) (by show out.length * 8 ≤ _; omega) (Nat.le_refl _) (by decide), HT.out.below⟩
end Go.Proofs.Ytabcjdalifhpdaa
