/- The walk of the closure of the document's answer to a clearing-up. Condition: a list tells the new places. -/
import Derived.Test.YtfafnjkinolkmaaMoved
import Derived.Test.YtfafnjkinolkmaaValues
namespace Go.Proofs.Ytfafnjkinolkmaa
open Go.RowKit

set_option maxRecDepth 100000 in
set_option maxHeartbeats 2000000 in
theorem collFix_any (g : Int → Int) (bm : Nat) (S T : Nat → Prop) (A P : Option Addr) (c pc : Nat) (xs : List V) (pl : List Int) (w : World) (hr : RdSl vE w S (.slice A xs.length c) xs) (hc : w.cell? ⟨bm, 0, none⟩ = some (.slice P pl.length pc)) (hp : RdSl iE w T (.slice P pl.length pc) pl)
    (hw : ∀ x ∈ xs, x.k = 2 → 0 ≤ x.n ∧ x.n < pl.length ∧ pl[x.n.toNat]? = some (g x.n)) :
    Calls Try.prog 50 #[.slice A xs.length c, .pointer (some ⟨bm, 0, none⟩)] w (ClonedV w (fun _ => False) (xs.map (newV g))) := by
  obtain ⟨-, h1, h2, h3⟩ := hr.lims
  have hbm := lt_of_cell hc
  have H3 : xs.length * 16 ≤ 140737488355328 := h3
  have Hr := Lib.hid hr
  have Hc := Lib.hid hc
  have Hp := Lib.hid hp
  have Hw := Lib.hid hw
  clear hr hc hp hw h3
  have T0 : St w.heap.size w w [] := St.start w (Nat.le_refl _)
  have HT := Lib.hid T0
  have hz : w.heap.size ≤ w.heap.size := by simp
  clear T0
  replace Hp : Hid (RdSl iE w (Fr 0 []) (.slice P pl.length pc) pl) := Lib.hid (Hp.out.pool (by decide) HT.out)
  go_enter Try.func50, Try.ntmps50
  go_wp2_with fail
  refine (values_any _ A c xs w Hr.out).mono ?_
  rintro en W1 ⟨v1, rfl, hown, hb⟩
  obtain ⟨A1, c1, rfl⟩ := own_formV hown
  obtain ⟨T', K'⟩ := HT.out.ownV hb hown (n := w.heap.size) (Nat.le_refl _)
  replace T' : St w.heap.size w W1 [.row w.heap.size 31 2 (.slice A1 xs.length c1) xs.length (cat (vcs xs))] := T'
  replace K' : Keeps w [] W1 [.row w.heap.size 31 2 (.slice A1 xs.length c1) xs.length (cat (vcs xs))] := K'
  replace HT := Lib.hid T'
  replace Hp : Hid (RdSl iE W1 (Fr 0 [.row w.heap.size 31 2 (.slice A1 xs.length c1) xs.length (cat (vcs xs))]) (.slice P pl.length pc) pl) := Lib.hid (Hp.out.move (by decide) K')
  clear T' K'
  replace hz : w.heap.size ≤ W1.heap.size := Nat.le_trans hz hb.size
  clear hb hown
  clear Hr
  go_wp2_with fail
  rw [show vcs xs = vcs (mixV g xs 0) by rw [mixV_zero]] at HT Hp
  replace Hp : Hid (RdSl iE W1 (Fr 0 [.row w.heap.size 31 2 (.slice A1 xs.length c1) xs.length (cat (vcs (mixV g xs 0)))]) (.slice P pl.length pc) pl) := Hp
  go_loopw [5] (fun i wl1 => ∃ k : Nat, i = .int .i64 k ∧ k ≤ xs.length ∧ St w.heap.size w wl1 [.row w.heap.size 31 2 (.slice A1 xs.length c1) xs.length (cat (vcs (mixV g xs k)))] ∧ RdSl iE wl1 (Fr 0 [.row w.heap.size 31 2 (.slice A1 xs.length c1) xs.length (cat (vcs (mixV g xs k)))]) (.slice P pl.length pc) pl ∧ w.heap.size ≤ wl1.heap.size) (fun i _ => xs.length - (intOf i).toNat)
  case atStart =>
    refine ⟨0, ?_, ?_, ?_, ?_, ?_⟩
    · rfl
    · exact Nat.zero_le _
    · with_reducible exact HT.out
    · with_reducible exact Hp.out
    · exact hz
  case round =>
    generalize wr = wl1 at *
    clear HT Hp hz
    obtain ⟨k, rfl, hk, ht, pHp, hz⟩ := hrel
    have HT := Lib.hid ht
    have Hp : Hid (RdSl iE wl1 (Fr 0 [.row w.heap.size 31 2 (.slice A1 xs.length c1) xs.length (cat (vcs (mixV g xs k)))]) (.slice P pl.length pc) pl) := Lib.hid pHp
    clear ht pHp
    by_cases hlt : k < xs.length
    · obtain ⟨x, hx⟩ : ∃ x, xs[k]? = some x := ⟨xs[k], List.getElem?_eq_getElem hlt⟩
      obtain ⟨gb, rfl, hgb⟩ := own_pos (HT.out.own 0 rfl) (by omega)
      have hmx := mixV_at g hx
      obtain ⟨y0, y1⟩ := HT.out.vCell 0 rfl hmx
      have qT := fun i => HT.out.rowFree 0 rfl i
      have HX := Lib.hid hx
      have Hmx := Lib.hid hmx
      clear hx hmx
      have i1 : (0 : Int) ≤ (k : Int) := by omega
      have i2 : (k : Int) < (xs.length : Int) := by omega
      replace Hp : Hid (RdSl iE wl1 (Fr 0 [.row w.heap.size 31 2 (.slice (some ⟨gb, 0, none⟩) xs.length c1) xs.length (cat (vcs (mixV g xs k)))]) (.slice P pl.length pc) pl) := Hp
      by_cases hx2 : x.k = 2
      · obtain ⟨w0, w1, w2⟩ := Hw.out x (List.mem_of_getElem? HX.out) hx2
        have hxb : (x.k == 2) = true := by simpa using hx2
        obtain ⟨m, hm⟩ : ∃ m : Nat, x.n = (m : Int) := Int.eq_ofNat_of_zero_le w0
        have w3 : pl[m]? = some (g x.n) := by rw [hm] at w2 ⊢; simpa using w2
        obtain ⟨pb, po, rfl, _, _, z0⟩ := Hp.out.at_i w3
        have hbc : wl1.cell? ⟨bm, 0, none⟩ = some (.slice (some ⟨pb, po, none⟩) pl.length pc) := (HT.out.below.cell (p := ⟨bm, 0, none⟩) hbm).trans Hc.out
        have hnw : mixV g xs (k + 1) = (mixV g xs k).set k ⟨x.k, g x.n⟩ := mixV_next2 g HX.out hx2
        have Hnw := Lib.hid hnw
        generalize hgv : g x.n = gv at *
        have j1 : (0 : Int) ≤ (m : Int) := by omega
        have j2 : (m : Int) < (pl.length : Int) := by omega
        rw [hm] at y1
        clear hnw hx2 hgv w0 w1 w2 w3
        replace Hp : Hid (RdSl iE wl1 (Fr 0 [.row w.heap.size 31 2 (.slice (some ⟨gb, 0, none⟩) xs.length c1) xs.length (cat (vcs (mixV g xs k)))]) (.slice (some ⟨pb, po, none⟩) pl.length pc) pl) := Hp
        go_wp2_with fail
        refine wp_region_plan [.still [0, 1, 2, 3, 4, 5, 6, 7, 8, 9, 10, 11], .loud 12 []] (by kernel_rfl) (by kernel_rfl) ?_
        refine plan_still ?_
        simp only [pick, List.getElem?_toArray, List.getElem?_cons_succ, List.getElem?_cons_zero]
        repeat still_step
        refine wpStill_nil ?_
        refine plan_loud ?_
        simp only [pick, List.getElem?_toArray, List.getElem?_cons_succ, List.getElem?_cons_zero]
        go_wp2_with fail
        obtain ⟨T', K'⟩ := HT.out.rowPut 0 (k * 2 + 1) (.int .i64 gv) rfl
        replace T' : St w.heap.size w ((wl1.setCell ⟨gb, k * 2 + 1, none⟩ (.int .i64 gv))) [.row w.heap.size 31 2 (.slice (some ⟨gb, 0, none⟩) xs.length c1) xs.length ((cat (vcs (mixV g xs k))).set (k * 2 + 1) (.int .i64 gv))] := T'
        replace K' : Keeps wl1 [.row w.heap.size 31 2 (.slice (some ⟨gb, 0, none⟩) xs.length c1) xs.length (cat (vcs (mixV g xs k)))] ((wl1.setCell ⟨gb, k * 2 + 1, none⟩ (.int .i64 gv))) [.row w.heap.size 31 2 (.slice (some ⟨gb, 0, none⟩) xs.length c1) xs.length ((cat (vcs (mixV g xs k))).set (k * 2 + 1) (.int .i64 gv))] := K'
        replace HT := Lib.hid T'
        replace Hp : Hid (RdSl iE ((wl1.setCell ⟨gb, k * 2 + 1, none⟩ (.int .i64 gv))) (Fr 0 [.row w.heap.size 31 2 (.slice (some ⟨gb, 0, none⟩) xs.length c1) xs.length ((cat (vcs (mixV g xs k))).set (k * 2 + 1) (.int .i64 gv))]) (.slice (some ⟨pb, po, none⟩) pl.length pc) pl) := Lib.hid (Hp.out.move (by decide) K')
        clear T' K'
        replace hz : w.heap.size ≤ ((wl1.setCell ⟨gb, k * 2 + 1, none⟩ (.int .i64 gv))).heap.size := by simpa using hz
        generalize (wl1.setCell ⟨gb, k * 2 + 1, none⟩ (.int .i64 gv)) = W2 at *
        rw [vcs_setN Hmx.out, ← Hnw.out] at HT Hp
        replace Hp : Hid (RdSl iE W2 (Fr 0 [.row w.heap.size 31 2 (.slice (some ⟨gb, 0, none⟩) xs.length c1) xs.length (cat (vcs (mixV g xs (k + 1))))]) (.slice (some ⟨pb, po, none⟩) pl.length pc) pl) := Hp
        replace HT : Hid (St w.heap.size w W2 [.row w.heap.size 31 2 (.slice (some ⟨gb, 0, none⟩) xs.length c1) xs.length (cat (vcs (mixV g xs (k + 1))))]) := HT
        clear hbc qT y0 y1 z0
        refine ⟨trivial, ?_⟩
        refine plan_end (NoPanic.normal ?_)
        obtain ⟨T', K'⟩ := HT.out.drew'
        replace T' : St w.heap.size w W2.drew [.row w.heap.size 31 2 (.slice (some ⟨gb, 0, none⟩) xs.length c1) xs.length (cat (vcs (mixV g xs (k + 1))))] := T'
        replace K' : Keeps W2 [.row w.heap.size 31 2 (.slice (some ⟨gb, 0, none⟩) xs.length c1) xs.length (cat (vcs (mixV g xs (k + 1))))] W2.drew [.row w.heap.size 31 2 (.slice (some ⟨gb, 0, none⟩) xs.length c1) xs.length (cat (vcs (mixV g xs (k + 1))))] := K'
        replace HT := Lib.hid T'
        replace Hp : Hid (RdSl iE W2.drew (Fr 0 [.row w.heap.size 31 2 (.slice (some ⟨gb, 0, none⟩) xs.length c1) xs.length (cat (vcs (mixV g xs (k + 1))))]) (.slice (some ⟨pb, po, none⟩) pl.length pc) pl) := Lib.hid (Hp.out.move (by decide) K')
        clear T' K'
        replace hz : w.heap.size ≤ W2.drew.heap.size := hz
        generalize W2.drew = W3 at *
        go_wp2_with fail
        go_roundw
        case rel =>
          refine ⟨k + 1, ?_, ?_, ?_, ?_, ?_⟩
          · go_num
          · omega
          · with_reducible exact HT.out
          · with_reducible exact Hp.out
          · exact hz
        case measure => simp [intOf]; omega
      · have hxb : (x.k == 2) = false := by simpa using hx2
        have hnw : mixV g xs (k + 1) = mixV g xs k := mixV_next1 g HX.out hx2
        have Hnw := Lib.hid hnw
        clear hnw hx2
        go_wp2_with fail
        rw [← Hnw.out] at HT Hp
        replace Hp : Hid (RdSl iE wl1 (Fr 0 [.row w.heap.size 31 2 (.slice (some ⟨gb, 0, none⟩) xs.length c1) xs.length (cat (vcs (mixV g xs (k + 1))))]) (.slice P pl.length pc) pl) := Hp
        go_roundw
        case rel =>
          refine ⟨k + 1, ?_, ?_, ?_, ?_, ?_⟩
          · go_num
          · omega
          · with_reducible exact HT.out
          · with_reducible exact Hp.out
          · exact hz
        case measure => simp [intOf]; omega
    · have hkk : k = xs.length := by omega
      subst hkk
      rw [mixV_all] at HT Hp
      clear hk hlt
      go_wp2_with fail
      go_ret
      exact ⟨_, rfl, HT.out.outV 0 (xs := xs.map (newV g)) rfl (by simp) (by simpa using H3) _, HT.out.below⟩
end Go.Proofs.Ytfafnjkinolkmaa
