/- The walk of treadwheelref.flowOf. Condition: instructions are in their bounds, and lead where instructions are. The walk of treadwheelref.VerifiedOf. No condition beside what is read. -/
import Derived.Test.YtabcjdalifhpdaaDoorFlowN
import Derived.Deep.LoopGhost
import Derived.Test.YtabcjdalifhpdaaDoorFault
import Derived.Test.YtabcjdalifhpdaaDoorDecL
namespace Go.Proofs.YtabcjdalifhpdaaDoor
section
open Go.RowKit
theorem start_set {n : Nat} (h : 1 ≤ n) : (List.replicate n ([] : List Int)).set 0 [3, 3, 0, 0, 0, 0, 0, 0] = start8 n := by
  obtain ⟨m, rfl⟩ : ∃ m, n = m + 1 := ⟨n - 1, by omega⟩
  simp only [List.replicate_succ (n := m), List.set_cons_zero, start8, Nat.add_sub_cancel]
theorem rd_nat {w : World} {S : Nat → Prop} {b o n c : Nat} {xs : List Ins} (h : RdSl insE w S (.slice (some ⟨b, o, none⟩) n c) xs) {i : Nat} {x : Ins} (hx : xs[i]? = some x) :
    w.cell? ⟨b, o + i * 4, none⟩ = some (.int .i64 x.op) ∧ w.cell? ⟨b, o + i * 4 + 1, none⟩ = some (.int .i64 x.a) ∧ w.cell? ⟨b, o + i * 4 + 2, none⟩ = some (.int .i64 x.b) ∧ w.cell? ⟨b, o + i * 4 + 3, none⟩ = some (.int .i64 x.n) := by
  obtain ⟨b', o', e, _, _, y0, y1, y2, y3⟩ := h.at_n hx
  injection e with e
  injection e with e1 e2
  subst e1 e2
  exact ⟨y0, y1, y2, y3⟩
set_option maxRecDepth 100000 in
set_option maxHeartbeats 16000000 in
theorem flowOf_any (S : Nat → Prop) (A : Option Addr) (c : Nat) (l : List Ins) (hl : FlCode l) (w : World) (hr : RdSl insE w S (.slice A l.length c) l) :
    Calls Tryd.prog 105 #[.slice A l.length c] w (FlowOfD w l) := by
  obtain ⟨-, hc1, hc2, hc3⟩ := hr.lims
  have h1 := hl.one
  have h60 := hl.few
  obtain ⟨i0, hi0, hz0, hz1, hz2⟩ := info_parts (show (Tryd.prog.info? 55).map (fun i => (i.zero, i.size, i.bytes)) = some (some (.slice none 0 0), 1, 24) by kernel_rfl)
  obtain ⟨j0, hj0, hy0, hy1, hy2⟩ := info_parts (show (Tryd.prog.info? 3).map (fun i => (i.zero, i.size, i.bytes)) = some (some (.int .i64 0), 1, 8) by kernel_rfl)
  have Hl := Lib.hid hl
  have Hr := Lib.hid hr
  clear hl hr hc3
  have T0 : St w.heap.size w w [] := St.start w (Nat.le_refl _)
  have HT := Lib.hid T0
  have hz : w.heap.size ≤ w.heap.size := by simp
  clear T0
  replace Hr : Hid (RdSl insE w (Fr 0 []) (.slice A l.length c) l) := Lib.hid (Hr.out.pool (by decide) HT.out)
  go_enter Tryd.func105, Tryd.ntmps105
  go_upto_region 1 with fail
  go_wp2_with (at_make; go_loud (refine wpList_make_full _ rfl (.tmp 12) (.tmp 12) 56 rfl w.heap.size 55 i0 _ 1 Tryd.underlying56 hi0 hz0 hz1 _ _ _ _ l.length rfl rfl rfl rfl (by rw [hz2]; omega) (by unfold maxLen; omega) (Nat.le_refl _) ?next))
  case next =>
    intro Wa hown hgr
    replace hown := made_rep alike_slice hown
    rw [cat_nils] at hown
    obtain ⟨T', K'⟩ := HT.out.ownRow ((Below.refl _ _).grown hgr (Nat.le_refl _) (fun k hk => by cases hk)) hown (m := w.heap.size) (Nat.le_refl _)
    replace HT := Lib.hid T'
    replace Hr := Lib.hid (Hr.out.move (by decide) K')
    clear T' K'
    replace hz : w.heap.size ≤ Wa.heap.size := Nat.le_trans hz hgr.size
    clear hown hgr hi0 hz0 hz1 hz2
    have hza : w.heap.size ≤ Wa.heap.size := hz
    have HA : Hid (Held liE Wa (Fr w.heap.size [.row w.heap.size 55 1 (.slice (some ⟨w.heap.size, 0, none⟩) l.length l.length) l.length (cat (List.replicate l.length [.slice none 0 0]))]) (List.replicate l.length [.slice none 0 0]) (List.replicate l.length [])) := Lib.hid (nils_held _)
    have i1 : (0 : Int) < (l.length : Int) := by omega
    have i1n : 0 < l.length := by omega
    have i1e : l ≠ [] := by intro h; rw [h] at i1n; exact absurd i1n (by decide)
    have f_a := fun i => HT.out.rowFree 0 rfl i
    have y0 := HT.out.rowCell 0 rfl HA.out.size (k := 0) (j := 0) (cs := [.slice none 0 0]) (by rw [List.getElem?_replicate, if_pos i1n]) rfl
    rw [Nat.zero_mul, Nat.add_zero] at y0
    have hlt9 : w.heap.size < Wa.heap.size := lt_of_cell y0
    go_upto_region 3 with fail
    clear f_a y0 hlt9
    obtain ⟨T', K'⟩ := HT.out.rowPut 0 0 (.slice (some ⟨Wa.heap.size, 0, none⟩) 8 8) rfl
    simp only [List.set_cons_zero] at T' K'
    replace HT := Lib.hid T'
    replace Hr := Lib.hid (Hr.out.move (by decide) K')
    replace HA := Lib.hid (HA.out.move K')
    clear T' K'
    replace hz : w.heap.size ≤ ((Wa.setCell ⟨w.heap.size, 0, none⟩ (.slice (some ⟨Wa.heap.size, 0, none⟩) 8 8))).heap.size := by simpa using hz
    rw [cat_set1 (HA.out.size) (by rw [List.length_replicate]; omega)] at HT HA Hr
    replace Hr : Hid (RdSl insE ((Wa.setCell ⟨w.heap.size, 0, none⟩ (.slice (some ⟨Wa.heap.size, 0, none⟩) 8 8))) (Fr 0 [.row w.heap.size 55 1 (.slice (some ⟨w.heap.size, 0, none⟩) l.length l.length) l.length (cat ((List.replicate l.length [Value.slice none 0 0]).set 0 [.slice (some ⟨Wa.heap.size, 0, none⟩) 8 8]))]) (.slice A l.length c) l) := Hr
    replace HA : Hid (Held liE ((Wa.setCell ⟨w.heap.size, 0, none⟩ (.slice (some ⟨Wa.heap.size, 0, none⟩) 8 8))) (Fr w.heap.size [.row w.heap.size 55 1 (.slice (some ⟨w.heap.size, 0, none⟩) l.length l.length) l.length (cat ((List.replicate l.length [Value.slice none 0 0]).set 0 [.slice (some ⟨Wa.heap.size, 0, none⟩) 8 8]))]) (List.replicate l.length [.slice none 0 0]) (List.replicate l.length [])) := HA
    replace HT : Hid (St w.heap.size w ((Wa.setCell ⟨w.heap.size, 0, none⟩ (.slice (some ⟨Wa.heap.size, 0, none⟩) 8 8))) [.row w.heap.size 55 1 (.slice (some ⟨w.heap.size, 0, none⟩) l.length l.length) l.length (cat ((List.replicate l.length [Value.slice none 0 0]).set 0 [.slice (some ⟨Wa.heap.size, 0, none⟩) 8 8]))]) := HT
    obtain ⟨T', K'⟩ := HT.out.new' #[.int .i64 3, .int .i64 3, .int .i64 0, .int .i64 0, .int .i64 0, .int .i64 0, .int .i64 0, .int .i64 0] 3 Wa.heap.size (by first | (simp; done) | rfl)
    replace HT := Lib.hid T'
    replace Hr := Lib.hid (Hr.out.move (by decide) K')
    replace HA := Lib.hid (HA.out.move K')
    clear T' K'
    replace hz : w.heap.size ≤ (((Wa.setCell ⟨w.heap.size, 0, none⟩ (.slice (some ⟨Wa.heap.size, 0, none⟩) 8 8)).alloc (.cells #[.int .i64 3, .int .i64 3, .int .i64 0, .int .i64 0, .int .i64 0, .int .i64 0, .int .i64 0, .int .i64 0] 3))).heap.size := Nat.le_trans hz (by simp)
    generalize ((Wa.setCell ⟨w.heap.size, 0, none⟩ (.slice (some ⟨Wa.heap.size, 0, none⟩) 8 8)).alloc (.cells #[.int .i64 3, .int .i64 3, .int .i64 0, .int .i64 0, .int .i64 0, .int .i64 0, .int .i64 0, .int .i64 0] 3)) = W1 at *
    have hI := HT.out.blkI 0 (l := [3, 3, 0, 0, 0, 0, 0, 0]) (n := w.heap.size) rfl (by decide) hza
    obtain ⟨T', K'⟩ := HT.out.drop 0
    simp only [List.eraseIdx_cons_zero] at T' K'
    replace HT := Lib.hid T'
    replace Hr := Lib.hid (Hr.out.move (by decide) K')
    replace HA := Lib.hid (HA.out.move K')
    clear T' K'
    have hn0 := HA.out.set 0 (x := [3, 3, 0, 0, 0, 0, 0, 0]) (cs := [.slice (some ⟨Wa.heap.size, 0, none⟩) 8 8]) rfl ⟨_, rfl, hI⟩
    rw [show (List.replicate l.length ([] : List Int)).set 0 [3, 3, 0, 0, 0, 0, 0, 0] = start8 l.length from start_set h1] at hn0
    replace HA : Hid (Held liE W1 (Fr w.heap.size [.row w.heap.size 55 1 (.slice (some ⟨w.heap.size, 0, none⟩) l.length l.length) l.length (cat ((List.replicate l.length [Value.slice none 0 0]).set 0 [.slice (some ⟨Wa.heap.size, 0, none⟩) 8 8]))]) ((List.replicate l.length [Value.slice none 0 0]).set 0 [.slice (some ⟨Wa.heap.size, 0, none⟩) 8 8]) (start8 l.length)) := Lib.hid hn0
    clear hn0 hI i1 i1n i1e
    have hFI := flowI_start h1
    go_wp2_with fail
    go_loopg [4] (rkS (start8 l.length) + 1) (fun gk ag wl2 => ∃ (fl : Bool) (st : List (List Int)) (css : List (List Value)), ag = .bool fl ∧ FlowI l gk fl st ∧ St w.heap.size w wl2 [.row w.heap.size 55 1 (.slice (some ⟨w.heap.size, 0, none⟩) l.length l.length) l.length (cat css)] ∧ RdSl insE wl2 (Fr 0 [.row w.heap.size 55 1 (.slice (some ⟨w.heap.size, 0, none⟩) l.length l.length) l.length (cat css)]) (.slice A l.length c) l ∧ Held liE wl2 (Fr w.heap.size [.row w.heap.size 55 1 (.slice (some ⟨w.heap.size, 0, none⟩) l.length l.length) l.length (cat css)]) css st ∧ w.heap.size ≤ wl2.heap.size)
    case atStart =>
      refine ⟨true, start8 l.length, (List.replicate l.length [Value.slice none 0 0]).set 0 [.slice (some ⟨Wa.heap.size, 0, none⟩) 8 8], ?_, ?_, ?_, ?_, ?_, ?_⟩
      · rfl
      · exact hFI
      · with_reducible exact HT.out
      · with_reducible exact Hr.out
      · with_reducible exact HA.out
      · exact hz
    case round =>
      generalize wr = wl2 at *
      clear HT Hr HA hz
      obtain ⟨fl, st, css, rfl, hFI, ht, pHr, pHA, hz⟩ := hrel
      have HT := Lib.hid ht
      have Hr : Hid (RdSl insE wl2 (Fr 0 [.row w.heap.size 55 1 (.slice (some ⟨w.heap.size, 0, none⟩) l.length l.length) l.length (cat css)]) (.slice A l.length c) l) := Lib.hid pHr
      have HA : Hid (Held liE wl2 (Fr w.heap.size [.row w.heap.size 55 1 (.slice (some ⟨w.heap.size, 0, none⟩) l.length l.length) l.length (cat css)]) css st) := Lib.hid pHA
      clear ht pHr pHA
      have HFI := Lib.hid hFI
      have hlen := hFI.1
      have H8 := Lib.hid hFI.2.1
      have Hlen := Lib.hid hlen
      clear hFI hlen
      cases fl
      · go_wp2_with fail
        have hE := flowI_end HFI.out
        subst hE
        go_ret
        have hA := HT.out.rdRow (E := liE) (n := w.heap.size) 0 rfl rfl Hlen.out.symm HA.out (by rw [Hlen.out]; show l.length * 24 ≤ _; omega) (Nat.le_refl _) (by show 0 < 1; omega)
        exact ⟨_, _, rfl, hA, HT.out.below⟩
      · go_wp2_with fail
        go_loopw [5, 4] (fun i ag wl3 => ∃ (k : Nat) (fk : Bool) (sk : List (List Int)) (cks : List (List Value)), i = .int .i64 k ∧ ag = .bool fk ∧ k ≤ l.length ∧ roundTo l st k = (sk, fk) ∧ St w.heap.size w wl3 [.row w.heap.size 55 1 (.slice (some ⟨w.heap.size, 0, none⟩) l.length l.length) l.length (cat cks)] ∧ RdSl insE wl3 (Fr 0 [.row w.heap.size 55 1 (.slice (some ⟨w.heap.size, 0, none⟩) l.length l.length) l.length (cat cks)]) (.slice A l.length c) l ∧ Held liE wl3 (Fr w.heap.size [.row w.heap.size 55 1 (.slice (some ⟨w.heap.size, 0, none⟩) l.length l.length) l.length (cat cks)]) cks sk ∧ w.heap.size ≤ wl3.heap.size) (fun i _ _ => l.length - (intOf i).toNat)
        case atStart =>
          refine ⟨0, false, st, css, ?_, ?_, ?_, ?_, ?_, ?_, ?_, ?_⟩
          · rfl
          · rfl
          · exact Nat.zero_le _
          · rfl
          · with_reducible exact HT.out
          · with_reducible exact Hr.out
          · with_reducible exact HA.out
          · exact hz
        case round =>
          generalize wr = wl3 at *
          clear HT Hr HA hz
          obtain ⟨k, fk, sk, cks, rfl, rfl, hk, hst, ht, pHr, pHA, hz⟩ := hrel
          have HT := Lib.hid ht
          have Hr : Hid (RdSl insE wl3 (Fr 0 [.row w.heap.size 55 1 (.slice (some ⟨w.heap.size, 0, none⟩) l.length l.length) l.length (cat cks)]) (.slice A l.length c) l) := Lib.hid pHr
          have HA : Hid (Held liE wl3 (Fr w.heap.size [.row w.heap.size 55 1 (.slice (some ⟨w.heap.size, 0, none⟩) l.length l.length) l.length (cat cks)]) cks sk) := Lib.hid pHA
          clear ht pHr pHA
          have hd := roundTo_down (l := l) H8.out k
          rw [hst] at hd
          have K8 := Lib.hid (hd.eights H8.out)
          have hkl : sk.length = l.length := hd.len.trans Hlen.out
          have Klen := Lib.hid hkl
          have Hst := Lib.hid hst
          clear hst hd hkl
          by_cases hlt : k < l.length
          · obtain ⟨x, hx⟩ : ∃ x, l[k]? = some x := ⟨l[k], List.getElem?_eq_getElem hlt⟩
            obtain ⟨fb, fo, rfl, _, _, x0, x1, x2, x3⟩ := Hr.out.at_n hx
            obtain ⟨op, xn, ra, rb, rfl, hop, hra, hrb⟩ := (Hl.out.ins k x hx).nat
            have hjmp : op = 5 ∨ op = 6 → -1000 ≤ xn ∧ xn ≤ 1000 := (Hl.out.ins k _ hx).jump
            have Hways := Lib.hid (Hl.out.ins k _ hx).ways
            obtain ⟨e, he⟩ : ∃ e, sk[k]? = some e := ⟨sk[k]'(by have := Klen.out; omega), List.getElem?_eq_getElem _⟩
            obtain ⟨eb, ed, hce, hre⟩ := HA.out.at_l he
            have d0 := HT.out.rowCell 0 rfl HA.out.size hce (j := 0) rfl
            rw [Nat.mul_one, Nat.add_zero] at d0
            have HX := Lib.hid hx
            have i1 : (0 : Int) ≤ (k : Int) := by omega
            have i2 : (k : Int) < (l.length : Int) := by omega
            clear hx hce
            rcases e with _ | ⟨e, es⟩
            · replace d0 : wl3.cell? ⟨w.heap.size, k, none⟩ = some (.slice eb 0 ed) := d0
              have Hn := Lib.hid (roundTo_none Hst.out he)
              clear he hre
              go_wp2_with fail
              clear d0 x0 x1 x2 x3
              go_roundw
              case rel =>
                refine ⟨k + 1, fk, sk, cks, ?_, ?_, ?_, ?_, ?_, ?_, ?_, ?_⟩
                · go_num
                · rfl
                · omega
                · exact Hn.out
                · with_reducible exact HT.out
                · with_reducible exact Hr.out
                · with_reducible exact HA.out
                · exact hz
              case measure => simp [intOf]; omega
            · have h8 : (e :: es).length = 8 := (K8.out _ (List.mem_of_getElem? he)).elim (fun h => by cases h) id
              have Hn := Lib.hid (roundTo_some Hst.out he HX.out)
              generalize hE : e :: es = E8 at *
              have hE0 : (E8.length : Int) = 8 := by omega
              rw [h8] at d0 hre
              have Hre := Lib.hid hre
              obtain ⟨K, hM⟩ : ∃ K, laterP E8 ⟨op, ra, rb, xn⟩ = K := ⟨_, rfl⟩
              have hK8 : K.length = 8 := by rw [← hM, later_len, h8]
              obtain ⟨ws, hws⟩ : ∃ ws, waysP (k : Int) ⟨op, ra, rb, xn⟩ = ws := ⟨_, rfl⟩
              rw [hM, hws] at Hn
              rw [hws] at Hways
              have G1 := Lib.hid (fun W S (h : RdSl iE W S (.slice eb E8.length ed) E8) => laterOf_any S eb ed E8 h8 op xn ra rb hop hra hrb W h)
              have G2 := Lib.hid (fun W => waysOn_any (k : Int) op ra rb xn hop ⟨by omega, by omega⟩ hjmp W)
              rw [hM, h8] at G1
              rw [hws] at G2
              unfold NewI at G1
              rw [hK8] at G1
              have HK8 := Lib.hid hK8
              have HE8 := Lib.hid h8
              clear hE0 hM hws he hre hK8 h8 hE
              go_wp2_with fail
              refine wp_region_plan [.still [0, 1, 2, 3, 4, 5, 6, 7], .loud 8 [], .still [9]] (by kernel_rfl) (by kernel_rfl) ?_
              refine plan_still ?_
              simp only [pick, List.getElem?_toArray, List.getElem?_cons_succ, List.getElem?_cons_zero]
              repeat still_step
              refine wpStill_nil ?_
              refine plan_loud ?_
              simp only [pick, List.getElem?_toArray, List.getElem?_cons_succ, List.getElem?_cons_zero]
              go_wp2_with fail
              obtain ⟨T', K'⟩ := HT.out.drew'
              replace HT := Lib.hid T'
              replace HA := Lib.hid (HA.out.move K')
              replace Hr := Lib.hid (Hr.out.move (by decide) K')
              replace Hre := Lib.hid (Hre.out.move (by decide) K')
              clear T' K'
              replace hz : w.heap.size ≤ wl3.drew.heap.size := hz
              refine (G1.out _ _ Hre.out).mono ?_
              rintro en W4 ⟨Ak, ak, rfl, hrd, hb⟩
              have Hfresh := Lib.hid (HT.out)
              have hzo : w.heap.size ≤ wl3.drew.heap.size := by omega
              obtain ⟨T', K'⟩ := HT.out.call hb
              replace HT := Lib.hid T'
              replace HA := Lib.hid (HA.out.move K')
              replace Hr := Lib.hid (Hr.out.move (by decide) K')
              replace Hre := Lib.hid (Hre.out.move (by decide) K')
              clear T' K'
              replace hz : w.heap.size ≤ W4.heap.size := Nat.le_trans hz hb.size
              clear hb
              have HK : Hid (RdSl iE W4 (Fr w.heap.size [.row w.heap.size 55 1 (.slice (some ⟨w.heap.size, 0, none⟩) l.length l.length) l.length (cat cks)]) (.slice Ak 8 ak) K) := Lib.hid (hrd.fresh (by first | decide | (show 0 < 1; omega)) Hfresh.out hzo)
              clear hrd
              clear Hfresh hzo
              obtain ⟨k9, hk9⟩ : ∃ x, K[0]? = some x := ⟨_, List.getElem?_eq_getElem (by have := HK8.out; omega)⟩
              obtain ⟨kb, ko, rfl, _⟩ := HK.out.at_i hk9
              clear hk9
              go_wp2_with fail
              refine ⟨trivial, ?_⟩
              refine plan_still ?_
              simp only [pick, List.getElem?_toArray, List.getElem?_cons_succ, List.getElem?_cons_zero]
              repeat still_step
              refine wpStill_nil ?_
              refine plan_end (NoPanic.normal ?_)
              generalize W4 = W5 at *
              have x9 : True := trivial
              clear x0 x1 x2 x3 d0 x9
              obtain ⟨hx0, hx1, hx2, hx3⟩ := rd_nat Hr.out HX.out
              go_wp2_with fail
              refine (G2.out _).mono ?_
              rintro en W6 ⟨Aw, cw, rfl, hrd, hb⟩
              have Hfresh := Lib.hid (HT.out)
              have hzo : w.heap.size ≤ W5.heap.size := by omega
              obtain ⟨T', K'⟩ := HT.out.call hb
              replace HT := Lib.hid T'
              replace HA := Lib.hid (HA.out.move K')
              replace Hr := Lib.hid (Hr.out.move (by decide) K')
              replace Hre := Lib.hid (Hre.out.move (by decide) K')
              replace HK := Lib.hid (HK.out.move (by decide) K')
              clear T' K'
              replace hz : w.heap.size ≤ W6.heap.size := Nat.le_trans hz hb.size
              clear hb
              have Hw : Hid (RdSl iE W6 (Fr w.heap.size [.row w.heap.size 55 1 (.slice (some ⟨w.heap.size, 0, none⟩) l.length l.length) l.length (cat cks)]) (.slice Aw ws.length cw) ws) := Lib.hid (hrd.fresh (by first | decide | (show 0 < 1; omega)) Hfresh.out hzo)
              clear hrd
              clear Hfresh hzo
              clear G1 G2 hx0 hx1 hx2 hx3
              obtain ⟨-, lw1, lw2, -⟩ := Hw.out.lims
              clear Hre
              go_wp2_with fail
              go_loopw [8, 4] (fun i ag wl7 => ∃ (j : Nat) (fj : Bool) (sj : List (List Int)) (cjs : List (List Value)), i = .int .i64 j ∧ ag = .bool fj ∧ j ≤ ws.length ∧ (ws.take j).foldl (stepT K) (sk, fk) = (sj, fj) ∧ St w.heap.size w wl7 [.row w.heap.size 55 1 (.slice (some ⟨w.heap.size, 0, none⟩) l.length l.length) l.length (cat cjs)] ∧ RdSl insE wl7 (Fr 0 [.row w.heap.size 55 1 (.slice (some ⟨w.heap.size, 0, none⟩) l.length l.length) l.length (cat cjs)]) (.slice (some ⟨fb, fo, none⟩) l.length c) l ∧ RdSl iE wl7 (Fr w.heap.size [.row w.heap.size 55 1 (.slice (some ⟨w.heap.size, 0, none⟩) l.length l.length) l.length (cat cjs)]) (.slice (some ⟨kb, ko, none⟩) 8 ak) K ∧ RdSl iE wl7 (Fr w.heap.size [.row w.heap.size 55 1 (.slice (some ⟨w.heap.size, 0, none⟩) l.length l.length) l.length (cat cjs)]) (.slice Aw ws.length cw) ws ∧ Held liE wl7 (Fr w.heap.size [.row w.heap.size 55 1 (.slice (some ⟨w.heap.size, 0, none⟩) l.length l.length) l.length (cat cjs)]) cjs sj ∧ w.heap.size ≤ wl7.heap.size) (fun i _ _ => ws.length - (intOf i).toNat)
              case atStart =>
                refine ⟨0, fk, sk, cks, ?_, ?_, ?_, ?_, ?_, ?_, ?_, ?_, ?_, ?_⟩
                · rfl
                · rfl
                · exact Nat.zero_le _
                · rfl
                · with_reducible exact HT.out
                · with_reducible exact Hr.out
                · with_reducible exact HK.out
                · with_reducible exact Hw.out
                · with_reducible exact HA.out
                · exact hz
              case round =>
                generalize wr = wl7 at *
                clear HT HA Hr HK Hw hz
                obtain ⟨j, fj, sj, cjs, rfl, rfl, hj, hsj, ht, pHr, pHK, pHw, pHA, hz⟩ := hrel
                have HT := Lib.hid ht
                have Hr : Hid (RdSl insE wl7 (Fr 0 [.row w.heap.size 55 1 (.slice (some ⟨w.heap.size, 0, none⟩) l.length l.length) l.length (cat cjs)]) (.slice (some ⟨fb, fo, none⟩) l.length c) l) := Lib.hid pHr
                have HK : Hid (RdSl iE wl7 (Fr w.heap.size [.row w.heap.size 55 1 (.slice (some ⟨w.heap.size, 0, none⟩) l.length l.length) l.length (cat cjs)]) (.slice (some ⟨kb, ko, none⟩) 8 ak) K) := Lib.hid pHK
                have Hw : Hid (RdSl iE wl7 (Fr w.heap.size [.row w.heap.size 55 1 (.slice (some ⟨w.heap.size, 0, none⟩) l.length l.length) l.length (cat cjs)]) (.slice Aw ws.length cw) ws) := Lib.hid pHw
                have HA : Hid (Held liE wl7 (Fr w.heap.size [.row w.heap.size 55 1 (.slice (some ⟨w.heap.size, 0, none⟩) l.length l.length) l.length (cat cjs)]) cjs sj) := Lib.hid pHA
                clear ht pHr pHK pHw pHA
                have hd := foldT_down HK8.out (ws.take j) (sk, fk)
                rw [hsj] at hd
                have J8 := Lib.hid (hd.eights K8.out)
                have hjl : sj.length = l.length := hd.len.trans Klen.out
                have Jlen := Lib.hid hjl
                have Hsj := Lib.hid hsj
                clear hsj hd hjl
                by_cases hjt : j < ws.length
                · obtain ⟨t, ht⟩ : ∃ t, ws[j]? = some t := ⟨ws[j], List.getElem?_eq_getElem hjt⟩
                  have htb := Hways.out t (List.mem_of_getElem? ht)
                  obtain ⟨t, rfl⟩ := Int.eq_ofNat_of_zero_le htb.1
                  have htl : t < l.length := by omega
                  obtain ⟨wb, wo, rfl, _, _, t0⟩ := Hw.out.at_i ht
                  obtain ⟨e, he⟩ : ∃ e, sj[t]? = some e := ⟨sj[t]'(by have := Jlen.out; omega), List.getElem?_eq_getElem _⟩
                  obtain ⟨eb, ed, hce, hre⟩ := HA.out.at_l he
                  have d0 := HT.out.rowCell 0 rfl HA.out.size hce (j := 0) rfl
                  rw [Nat.mul_one, Nat.add_zero] at d0
                  have hnx := fold_next ht (f := stepT K) (sk, fk)
                  rw [Hsj.out] at hnx
                  have Hnx := Lib.hid hnx
                  have HTi := Lib.hid ht
                  have i1 : (0 : Int) ≤ (j : Int) := by omega
                  have i4 : (j : Int) < (ws.length : Int) := by omega
                  have i5 : (0 : Int) ≤ (t : Int) := by omega
                  have i6 : (t : Int) < (l.length : Int) := by omega
                  have Hce := Lib.hid hce
                  clear ht hnx htb hce
                  rcases e with _ | ⟨e, es⟩
                  · replace d0 : wl7.cell? ⟨w.heap.size, t, none⟩ = some (.slice eb 0 ed) := d0
                    have HN := Lib.hid (Hnx.out.trans (stepT_new he))
                    clear he hre
                    go_wp2_with fail
                    clear d0 t0
                    have d0 := HT.out.rowCell 0 rfl HA.out.size Hce.out (j := 0) rfl
                    rw [Nat.mul_one, Nat.add_zero] at d0
                    have t0 := rd_iat Hw.out HTi.out
                    refine wp_region_plan [.still [0, 1, 2, 3, 4, 5], .loud 6 [0, 1, 2, 3, 4], .still [7], .loud 8 []] (by kernel_rfl) (by kernel_rfl) ?_
                    refine plan_still ?_
                    simp only [pick, List.getElem?_toArray, List.getElem?_cons_succ, List.getElem?_cons_zero]
                    repeat still_step
                    refine wpStill_nil ?_
                    refine plan_loud ?_
                    simp only [pick, List.getElem?_toArray, List.getElem?_cons_succ, List.getElem?_cons_zero]
                    obtain ⟨T', K'⟩ := HT.out.drew'
                    replace HT := Lib.hid T'
                    replace Hr := Lib.hid (Hr.out.move (by decide) K')
                    replace HK := Lib.hid (HK.out.move (by decide) K')
                    replace HA := Lib.hid (HA.out.move K')
                    replace Hw := Lib.hid (Hw.out.move (by decide) K')
                    clear T' K'
                    replace hz : w.heap.size ≤ wl7.drew.heap.size := hz
                    clear d0 t0
                    generalize wl7.drew = W8 at *
                    have d0 := HT.out.rowCell 0 rfl HA.out.size Hce.out (j := 0) rfl
                    rw [Nat.mul_one, Nat.add_zero] at d0
                    have t0 := rd_iat Hw.out HTi.out
                    go_wp2_with (at_builtin; go_loud (refine wpList_append_any _ rfl (.const (.slice none 0 0)) (.tmp 98) _ rfl W8.heap.size 3 j0 _ 1 8 Tryd.underlying55 hj0 hy0 hy1 hy2 rfl (by omega) (.slice none 0 0) 0 [] rfl ⟨by simp, .inl ⟨rfl, rfl⟩⟩ (some ⟨kb, ko, none⟩) 8 ak (K.map (.int .i64)) rfl (by simpa using HK8.out) (rdI_cells HK.out) (fun h => by cases h) (fun u hu => by obtain ⟨x, _, rfl⟩ := List.mem_map.1 hu; rfl) (by unfold maxLen; omega) (by omega) (Nat.le_refl _) ?next))
                    case next =>
                      intro v1 W9 hown hg
                      obtain ⟨A1, c1, rfl⟩ := own_form hown
                      obtain ⟨gn, rfl, hgn⟩ := own_posA hown (by omega)
                      clear d0 t0
                      obtain ⟨T', K'⟩ := HT.out.ownRow ((Below.refl _ _).grown hg (Nat.le_refl _) (fun k hk => by cases hk)) hown (m := w.heap.size) (by omega)
                      replace HT := Lib.hid T'
                      replace Hr := Lib.hid (Hr.out.move (by decide) K')
                      replace HK := Lib.hid (HK.out.move (by decide) K')
                      replace HA := Lib.hid (HA.out.move K')
                      replace Hw := Lib.hid (Hw.out.move (by decide) K')
                      clear T' K'
                      replace hz : w.heap.size ≤ W9.heap.size := Nat.le_trans hz hg.size
                      clear hown hg hgn
                      have f_a := fun i => HT.out.rowFree 1 rfl i
                      have d0 := HT.out.rowCell 1 rfl HA.out.size Hce.out (j := 0) rfl
                      rw [Nat.mul_one, Nat.add_zero] at d0
                      have t0 := rd_iat Hw.out HTi.out
                      go_wp2_with fail
                      refine ⟨?_, ?_⟩
                      · simp only [Again, pick, List.getElem?_toArray, List.getElem?_cons_succ, List.getElem?_cons_zero]
                        refine ⟨?_, ?_, ?_, ?_, ?_, trivial⟩
                        all_goals (still_step; exact wpStill_nil rfl)
                      refine plan_still ?_
                      simp only [pick, List.getElem?_toArray, List.getElem?_cons_succ, List.getElem?_cons_zero]
                      repeat still_step
                      refine wpStill_nil ?_
                      refine plan_loud ?_
                      simp only [pick, List.getElem?_toArray, List.getElem?_cons_succ, List.getElem?_cons_zero]
                      go_wp2_with fail
                      clear f_a d0 t0
                      obtain ⟨T', K'⟩ := HT.out.rowPut 1 t (.slice (some ⟨gn, 0, none⟩) 8 c1) rfl
                      simp only [List.set_cons_succ, List.set_cons_zero] at T' K'
                      replace HT := Lib.hid T'
                      replace Hr := Lib.hid (Hr.out.move (by decide) K')
                      replace HK := Lib.hid (HK.out.move (by decide) K')
                      replace HA := Lib.hid (HA.out.move K')
                      replace Hw := Lib.hid (Hw.out.move (by decide) K')
                      clear T' K'
                      replace hz : w.heap.size ≤ ((W9.setCell ⟨w.heap.size, t, none⟩ (.slice (some ⟨gn, 0, none⟩) 8 c1))).heap.size := by simpa using hz
                      generalize (W9.setCell ⟨w.heap.size, t, none⟩ (.slice (some ⟨gn, 0, none⟩) 8 c1)) = W10 at *
                      rw [cat_set1 HA.out.size (by rw [HA.out.len, Jlen.out]; exact htl)] at HT Hr HK HA Hw
                      replace Hr : Hid (RdSl insE W10 (Fr 0 [.row w.heap.size 3 1 (.slice (some ⟨gn, 0, none⟩) 8 c1) 8 (K.map (.int .i64)), .row w.heap.size 55 1 (.slice (some ⟨w.heap.size, 0, none⟩) l.length l.length) l.length (cat (cjs.set t [.slice (some ⟨gn, 0, none⟩) 8 c1]))]) (.slice (some ⟨fb, fo, none⟩) l.length c) l) := Hr
                      replace HK : Hid (RdSl iE W10 (Fr w.heap.size [.row w.heap.size 3 1 (.slice (some ⟨gn, 0, none⟩) 8 c1) 8 (K.map (.int .i64)), .row w.heap.size 55 1 (.slice (some ⟨w.heap.size, 0, none⟩) l.length l.length) l.length (cat (cjs.set t [.slice (some ⟨gn, 0, none⟩) 8 c1]))]) (.slice (some ⟨kb, ko, none⟩) 8 ak) K) := HK
                      replace HA : Hid (Held liE W10 (Fr w.heap.size [.row w.heap.size 3 1 (.slice (some ⟨gn, 0, none⟩) 8 c1) 8 (K.map (.int .i64)), .row w.heap.size 55 1 (.slice (some ⟨w.heap.size, 0, none⟩) l.length l.length) l.length (cat (cjs.set t [.slice (some ⟨gn, 0, none⟩) 8 c1]))]) cjs sj) := HA
                      replace Hw : Hid (RdSl iE W10 (Fr w.heap.size [.row w.heap.size 3 1 (.slice (some ⟨gn, 0, none⟩) 8 c1) 8 (K.map (.int .i64)), .row w.heap.size 55 1 (.slice (some ⟨w.heap.size, 0, none⟩) l.length l.length) l.length (cat (cjs.set t [.slice (some ⟨gn, 0, none⟩) 8 c1]))]) (.slice (some ⟨wb, wo, none⟩) ws.length cw) ws) := Hw
                      replace HT : Hid (St w.heap.size w W10 [.row w.heap.size 3 1 (.slice (some ⟨gn, 0, none⟩) 8 c1) 8 (K.map (.int .i64)), .row w.heap.size 55 1 (.slice (some ⟨w.heap.size, 0, none⟩) l.length l.length) l.length (cat (cjs.set t [.slice (some ⟨gn, 0, none⟩) 8 c1]))]) := HT
                      refine ⟨trivial, ?_⟩
                      refine plan_end (NoPanic.normal ?_)
                      have hv := HT.out.outI (n := w.heap.size) 0 (xs := K) rfl HK8.out.symm (by rw [HK8.out]; omega) (Nat.le_refl _)
                      obtain ⟨T', K'⟩ := HT.out.drop 0
                      simp only [List.eraseIdx_cons_zero] at T' K'
                      replace HT := Lib.hid T'
                      replace Hr := Lib.hid (Hr.out.move (by decide) K')
                      replace HK := Lib.hid (HK.out.move (by decide) K')
                      replace HA := Lib.hid (HA.out.move K')
                      replace Hw := Lib.hid (Hw.out.move (by decide) K')
                      clear T' K'
                      have hn0 := HA.out.set t (x := K) (cs := [.slice (some ⟨gn, 0, none⟩) 8 c1]) rfl ⟨_, rfl, hv⟩
                      replace HA : Hid (Held liE W10 (Fr w.heap.size [.row w.heap.size 55 1 (.slice (some ⟨w.heap.size, 0, none⟩) l.length l.length) l.length (cat (cjs.set t [.slice (some ⟨gn, 0, none⟩) 8 c1]))]) (cjs.set t [.slice (some ⟨gn, 0, none⟩) 8 c1]) (sj.set t K)) := Lib.hid hn0
                      clear hn0 hv
                      go_wp2_with fail
                      go_roundw
                      case rel =>
                        refine ⟨j + 1, true, sj.set t K, cjs.set t [.slice (some ⟨gn, 0, none⟩) 8 c1], ?_, ?_, ?_, ?_, ?_, ?_, ?_, ?_, ?_, ?_⟩
                        · go_num
                        · rfl
                        · omega
                        · exact HN.out
                        · with_reducible exact HT.out
                        · with_reducible exact Hr.out
                        · with_reducible exact HK.out
                        · with_reducible exact Hw.out
                        · with_reducible exact HA.out
                        · exact hz
                      case measure => simp [intOf]; omega
                  · have h8 : (e :: es).length = 8 := (J8.out _ (List.mem_of_getElem? he)).elim (fun h => by cases h) id
                    obtain ⟨Z, hZ⟩ : ∃ Z, (e :: es).zipWith joinN K = Z := ⟨_, rfl⟩
                    have hZ8 : Z.length = 8 := by rw [← hZ, List.length_zipWith, h8, HK8.out]; rfl
                    have HSame : Hid (Z = e :: es → stepT K (sj, fj) (t : Int) = (sj, fj)) := Lib.hid (fun h => stepT_same he (hZ.trans h))
                    have HDiff : Hid (Z ≠ e :: es → stepT K (sj, fj) (t : Int) = (sj.set t Z, true)) := Lib.hid (fun h => by rw [← hZ] at h ⊢; exact stepT_diff he h)
                    generalize hE : e :: es = E9 at *
                    have HZ := Lib.hid hZ
                    have HZ8 := Lib.hid hZ8
                    have HE9 := Lib.hid h8
                    rw [h8] at d0 hre Hce
                    have Hre := Lib.hid hre
                    clear he hre hZ hZ8 hE h8
                    go_wp2_with (at_make; go_loud (refine wpList_make_full _ rfl (.const (.int .i64 8)) (.const (.int .i64 8)) 55 rfl wl7.heap.size 3 j0 _ 1 Tryd.underlying55 hj0 hy0 hy1 _ _ _ _ 8 rfl rfl rfl rfl (by rw [hy2]; omega) (by unfold maxLen; omega) (Nat.le_refl _) ?next))
                    case next =>
                      intro W11 hown hgr
                      replace hown := made_rep alike_int hown
                      obtain ⟨T', K'⟩ := HT.out.ownRow ((Below.refl _ _).grown hgr (Nat.le_refl _) (fun k hk => by cases hk)) hown (m := w.heap.size) (by omega)
                      replace HT := Lib.hid T'
                      replace Hr := Lib.hid (Hr.out.move (by decide) K')
                      replace HK := Lib.hid (HK.out.move (by decide) K')
                      replace HA := Lib.hid (HA.out.move K')
                      replace Hw := Lib.hid (Hw.out.move (by decide) K')
                      replace Hre := Lib.hid (Hre.out.move (by decide) K')
                      clear T' K'
                      replace HT : Hid (St w.heap.size w W11 [.row w.heap.size 3 1 (.slice (some ⟨wl7.heap.size, 0, none⟩) 8 8) 8 ((joinZ E9 K 0).map (.int .i64)), .row w.heap.size 55 1 (.slice (some ⟨w.heap.size, 0, none⟩) l.length l.length) l.length (cat cjs)]) := HT
                      replace Hr : Hid (RdSl insE W11 (Fr 0 [.row w.heap.size 3 1 (.slice (some ⟨wl7.heap.size, 0, none⟩) 8 8) 8 ((joinZ E9 K 0).map (.int .i64)), .row w.heap.size 55 1 (.slice (some ⟨w.heap.size, 0, none⟩) l.length l.length) l.length (cat cjs)]) (.slice (some ⟨fb, fo, none⟩) l.length c) l) := Hr
                      replace HK : Hid (RdSl iE W11 (Fr w.heap.size [.row w.heap.size 3 1 (.slice (some ⟨wl7.heap.size, 0, none⟩) 8 8) 8 ((joinZ E9 K 0).map (.int .i64)), .row w.heap.size 55 1 (.slice (some ⟨w.heap.size, 0, none⟩) l.length l.length) l.length (cat cjs)]) (.slice (some ⟨kb, ko, none⟩) 8 ak) K) := HK
                      replace HA : Hid (Held liE W11 (Fr w.heap.size [.row w.heap.size 3 1 (.slice (some ⟨wl7.heap.size, 0, none⟩) 8 8) 8 ((joinZ E9 K 0).map (.int .i64)), .row w.heap.size 55 1 (.slice (some ⟨w.heap.size, 0, none⟩) l.length l.length) l.length (cat cjs)]) cjs sj) := HA
                      replace Hw : Hid (RdSl iE W11 (Fr w.heap.size [.row w.heap.size 3 1 (.slice (some ⟨wl7.heap.size, 0, none⟩) 8 8) 8 ((joinZ E9 K 0).map (.int .i64)), .row w.heap.size 55 1 (.slice (some ⟨w.heap.size, 0, none⟩) l.length l.length) l.length (cat cjs)]) (.slice (some ⟨wb, wo, none⟩) ws.length cw) ws) := Hw
                      replace Hre : Hid (RdSl iE W11 (Fr w.heap.size [.row w.heap.size 3 1 (.slice (some ⟨wl7.heap.size, 0, none⟩) 8 8) 8 ((joinZ E9 K 0).map (.int .i64)), .row w.heap.size 55 1 (.slice (some ⟨w.heap.size, 0, none⟩) l.length l.length) l.length (cat cjs)]) (.slice eb 8 ed) E9) := Hre
                      replace hz : w.heap.size ≤ W11.heap.size := Nat.le_trans hz hgr.size
                      clear hown hgr d0 t0
                      go_wp2_with fail
                      go_loopw [10] (fun i wl12 => ∃ r : Nat, i = .int .i64 r ∧ r ≤ 8 ∧ St w.heap.size w wl12 [.row w.heap.size 3 1 (.slice (some ⟨wl7.heap.size, 0, none⟩) 8 8) 8 ((joinZ E9 K r).map (.int .i64)), .row w.heap.size 55 1 (.slice (some ⟨w.heap.size, 0, none⟩) l.length l.length) l.length (cat cjs)] ∧ RdSl insE wl12 (Fr 0 [.row w.heap.size 3 1 (.slice (some ⟨wl7.heap.size, 0, none⟩) 8 8) 8 ((joinZ E9 K r).map (.int .i64)), .row w.heap.size 55 1 (.slice (some ⟨w.heap.size, 0, none⟩) l.length l.length) l.length (cat cjs)]) (.slice (some ⟨fb, fo, none⟩) l.length c) l ∧ RdSl iE wl12 (Fr w.heap.size [.row w.heap.size 3 1 (.slice (some ⟨wl7.heap.size, 0, none⟩) 8 8) 8 ((joinZ E9 K r).map (.int .i64)), .row w.heap.size 55 1 (.slice (some ⟨w.heap.size, 0, none⟩) l.length l.length) l.length (cat cjs)]) (.slice (some ⟨kb, ko, none⟩) 8 ak) K ∧ Held liE wl12 (Fr w.heap.size [.row w.heap.size 3 1 (.slice (some ⟨wl7.heap.size, 0, none⟩) 8 8) 8 ((joinZ E9 K r).map (.int .i64)), .row w.heap.size 55 1 (.slice (some ⟨w.heap.size, 0, none⟩) l.length l.length) l.length (cat cjs)]) cjs sj ∧ RdSl iE wl12 (Fr w.heap.size [.row w.heap.size 3 1 (.slice (some ⟨wl7.heap.size, 0, none⟩) 8 8) 8 ((joinZ E9 K r).map (.int .i64)), .row w.heap.size 55 1 (.slice (some ⟨w.heap.size, 0, none⟩) l.length l.length) l.length (cat cjs)]) (.slice (some ⟨wb, wo, none⟩) ws.length cw) ws ∧ RdSl iE wl12 (Fr w.heap.size [.row w.heap.size 3 1 (.slice (some ⟨wl7.heap.size, 0, none⟩) 8 8) 8 ((joinZ E9 K r).map (.int .i64)), .row w.heap.size 55 1 (.slice (some ⟨w.heap.size, 0, none⟩) l.length l.length) l.length (cat cjs)]) (.slice eb 8 ed) E9 ∧ w.heap.size ≤ wl12.heap.size) (fun i _ => 8 - (intOf i).toNat)
                      case atStart =>
                        refine ⟨0, ?_, ?_, ?_, ?_, ?_, ?_, ?_, ?_, ?_⟩
                        · rfl
                        · exact Nat.zero_le _
                        · with_reducible exact HT.out
                        · with_reducible exact Hr.out
                        · with_reducible exact HK.out
                        · with_reducible exact HA.out
                        · with_reducible exact Hw.out
                        · with_reducible exact Hre.out
                        · exact hz
                      case round =>
                        generalize wr = wl12 at *
                        clear HT Hr HK HA Hw Hre hz
                        obtain ⟨r, rfl, hr8, ht, pHr, pHK, pHA, pHw, pHre, hz⟩ := hrel
                        have HT := Lib.hid ht
                        have Hr : Hid (RdSl insE wl12 (Fr 0 [.row w.heap.size 3 1 (.slice (some ⟨wl7.heap.size, 0, none⟩) 8 8) 8 ((joinZ E9 K r).map (.int .i64)), .row w.heap.size 55 1 (.slice (some ⟨w.heap.size, 0, none⟩) l.length l.length) l.length (cat cjs)]) (.slice (some ⟨fb, fo, none⟩) l.length c) l) := Lib.hid pHr
                        have HK : Hid (RdSl iE wl12 (Fr w.heap.size [.row w.heap.size 3 1 (.slice (some ⟨wl7.heap.size, 0, none⟩) 8 8) 8 ((joinZ E9 K r).map (.int .i64)), .row w.heap.size 55 1 (.slice (some ⟨w.heap.size, 0, none⟩) l.length l.length) l.length (cat cjs)]) (.slice (some ⟨kb, ko, none⟩) 8 ak) K) := Lib.hid pHK
                        have HA : Hid (Held liE wl12 (Fr w.heap.size [.row w.heap.size 3 1 (.slice (some ⟨wl7.heap.size, 0, none⟩) 8 8) 8 ((joinZ E9 K r).map (.int .i64)), .row w.heap.size 55 1 (.slice (some ⟨w.heap.size, 0, none⟩) l.length l.length) l.length (cat cjs)]) cjs sj) := Lib.hid pHA
                        have Hw : Hid (RdSl iE wl12 (Fr w.heap.size [.row w.heap.size 3 1 (.slice (some ⟨wl7.heap.size, 0, none⟩) 8 8) 8 ((joinZ E9 K r).map (.int .i64)), .row w.heap.size 55 1 (.slice (some ⟨w.heap.size, 0, none⟩) l.length l.length) l.length (cat cjs)]) (.slice (some ⟨wb, wo, none⟩) ws.length cw) ws) := Lib.hid pHw
                        have Hre : Hid (RdSl iE wl12 (Fr w.heap.size [.row w.heap.size 3 1 (.slice (some ⟨wl7.heap.size, 0, none⟩) 8 8) 8 ((joinZ E9 K r).map (.int .i64)), .row w.heap.size 55 1 (.slice (some ⟨w.heap.size, 0, none⟩) l.length l.length) l.length (cat cjs)]) (.slice eb 8 ed) E9) := Lib.hid pHre
                        clear ht pHr pHK pHA pHw pHre
                        by_cases hrt : r < 8
                        · obtain ⟨p, hp⟩ : ∃ p, E9[r]? = some p := ⟨_, List.getElem?_eq_getElem (by have := HE9.out; omega)⟩
                          obtain ⟨m, hm⟩ : ∃ m, K[r]? = some m := ⟨_, List.getElem?_eq_getElem (by have := HK8.out; omega)⟩
                          obtain ⟨qb, qo, rfl, _, _, z0⟩ := Hre.out.at_i hp
                          have z1 := rd_iat HK.out hm
                          obtain ⟨zz, hzz⟩ : ∃ zz, (joinZ E9 K r)[r]? = some zz := ⟨_, List.getElem?_eq_getElem (by rw [joinZ_len HE9.out HK8.out hr8]; exact hrt)⟩
                          have y0 := HT.out.iCell 0 rfl hzz
                          have f_n := fun i => HT.out.rowFree 0 rfl i
                          have Hjn := Lib.hid (joinZ_next HE9.out HK8.out hp hm)
                          have i7 : (0 : Int) ≤ (r : Int) := by omega
                          have i8 : (r : Int) < 8 := by omega
                          clear hp hm hzz
                          have d0 := HT.out.rowCell 1 rfl HA.out.size Hce.out (j := 0) rfl
                          rw [Nat.mul_one, Nat.add_zero] at d0
                          have t0 := rd_iat Hw.out HTi.out
                          go_wp2_with fail
                          refine wp_region_plan [.still [0, 1, 2, 3, 4, 5, 6, 7, 8, 9, 10, 11, 12, 13, 14, 15], .loud 16 [0, 1], .still [17], .loud 18 []] (by kernel_rfl) (by kernel_rfl) ?_
                          refine plan_still ?_
                          simp only [pick, List.getElem?_toArray, List.getElem?_cons_succ, List.getElem?_cons_zero]
                          repeat still_step
                          refine wpStill_nil ?_
                          refine plan_loud ?_
                          simp only [pick, List.getElem?_toArray, List.getElem?_cons_succ, List.getElem?_cons_zero]
                          go_wp2_with fail
                          refine (joinOf_any _ _ _).mono ?_
                          rintro en W' ⟨rfl, rfl⟩
                          go_wp2_with fail
                          refine ⟨?_, ?_⟩
                          · simp only [Again, pick, List.getElem?_toArray, List.getElem?_cons_succ, List.getElem?_cons_zero]
                            refine ⟨?_, ?_, trivial⟩
                            all_goals (still_step; exact wpStill_nil rfl)
                          refine plan_still ?_
                          simp only [pick, List.getElem?_toArray, List.getElem?_cons_succ, List.getElem?_cons_zero]
                          repeat still_step
                          refine wpStill_nil ?_
                          refine plan_loud ?_
                          simp only [pick, List.getElem?_toArray, List.getElem?_cons_succ, List.getElem?_cons_zero]
                          go_wp2_with fail
                          clear y0 f_n z0 z1 d0 t0
                          obtain ⟨T', K'⟩ := HT.out.iPut 0 r (joinN p m) rfl
                          simp only [List.set_cons_zero] at T' K'
                          replace HT := Lib.hid T'
                          replace Hr := Lib.hid (Hr.out.move (by decide) K')
                          replace HA := Lib.hid (HA.out.move K')
                          replace Hw := Lib.hid (Hw.out.move (by decide) K')
                          replace Hre := Lib.hid (Hre.out.move (by decide) K')
                          replace HK := Lib.hid (HK.out.move (by decide) K')
                          clear T' K'
                          replace hz : w.heap.size ≤ ((wl12.setCell ⟨wl7.heap.size, r, none⟩ (.int .i64 (joinN p m)))).heap.size := by simpa using hz
                          generalize (wl12.setCell ⟨wl7.heap.size, r, none⟩ (.int .i64 (joinN p m))) = W13 at *
                          refine ⟨trivial, ?_⟩
                          refine plan_end (NoPanic.normal ?_)
                          obtain ⟨T', K'⟩ := HT.out.drew'
                          replace HT := Lib.hid T'
                          replace Hr := Lib.hid (Hr.out.move (by decide) K')
                          replace HA := Lib.hid (HA.out.move K')
                          replace Hw := Lib.hid (Hw.out.move (by decide) K')
                          replace Hre := Lib.hid (Hre.out.move (by decide) K')
                          replace HK := Lib.hid (HK.out.move (by decide) K')
                          clear T' K'
                          replace hz : w.heap.size ≤ W13.drew.heap.size := hz
                          generalize W13.drew = W14 at *
                          rw [Hjn.out] at HT Hr HA Hw Hre HK
                          replace Hr : Hid (RdSl insE W14 (Fr 0 [.row w.heap.size 3 1 (.slice (some ⟨wl7.heap.size, 0, none⟩) 8 8) 8 ((joinZ E9 K (r + 1)).map (.int .i64)), .row w.heap.size 55 1 (.slice (some ⟨w.heap.size, 0, none⟩) l.length l.length) l.length (cat cjs)]) (.slice (some ⟨fb, fo, none⟩) l.length c) l) := Hr
                          replace HA : Hid (Held liE W14 (Fr w.heap.size [.row w.heap.size 3 1 (.slice (some ⟨wl7.heap.size, 0, none⟩) 8 8) 8 ((joinZ E9 K (r + 1)).map (.int .i64)), .row w.heap.size 55 1 (.slice (some ⟨w.heap.size, 0, none⟩) l.length l.length) l.length (cat cjs)]) cjs sj) := HA
                          replace Hw : Hid (RdSl iE W14 (Fr w.heap.size [.row w.heap.size 3 1 (.slice (some ⟨wl7.heap.size, 0, none⟩) 8 8) 8 ((joinZ E9 K (r + 1)).map (.int .i64)), .row w.heap.size 55 1 (.slice (some ⟨w.heap.size, 0, none⟩) l.length l.length) l.length (cat cjs)]) (.slice (some ⟨wb, wo, none⟩) ws.length cw) ws) := Hw
                          replace Hre : Hid (RdSl iE W14 (Fr w.heap.size [.row w.heap.size 3 1 (.slice (some ⟨wl7.heap.size, 0, none⟩) 8 8) 8 ((joinZ E9 K (r + 1)).map (.int .i64)), .row w.heap.size 55 1 (.slice (some ⟨w.heap.size, 0, none⟩) l.length l.length) l.length (cat cjs)]) (.slice (some ⟨qb, qo, none⟩) 8 ed) E9) := Hre
                          replace HK : Hid (RdSl iE W14 (Fr w.heap.size [.row w.heap.size 3 1 (.slice (some ⟨wl7.heap.size, 0, none⟩) 8 8) 8 ((joinZ E9 K (r + 1)).map (.int .i64)), .row w.heap.size 55 1 (.slice (some ⟨w.heap.size, 0, none⟩) l.length l.length) l.length (cat cjs)]) (.slice (some ⟨kb, ko, none⟩) 8 ak) K) := HK
                          replace HT : Hid (St w.heap.size w W14 [.row w.heap.size 3 1 (.slice (some ⟨wl7.heap.size, 0, none⟩) 8 8) 8 ((joinZ E9 K (r + 1)).map (.int .i64)), .row w.heap.size 55 1 (.slice (some ⟨w.heap.size, 0, none⟩) l.length l.length) l.length (cat cjs)]) := HT
                          go_wp2_with fail
                          go_roundw
                          case rel =>
                            refine ⟨r + 1, ?_, ?_, ?_, ?_, ?_, ?_, ?_, ?_, ?_⟩
                            · go_num
                            · omega
                            · with_reducible exact HT.out
                            · with_reducible exact Hr.out
                            · with_reducible exact HK.out
                            · with_reducible exact HA.out
                            · with_reducible exact Hw.out
                            · with_reducible exact Hre.out
                            · exact hz
                          case measure => simp [intOf]; omega
                        · obtain rfl : r = 8 := by omega
                          rw [joinZ_all HE9.out HK8.out, HZ.out] at HT Hr HK HA Hw Hre
                          clear hr8 hrt
                          replace Hr : Hid (RdSl insE wl12 (Fr 0 [.row w.heap.size 3 1 (.slice (some ⟨wl7.heap.size, 0, none⟩) 8 8) 8 (Z.map (.int .i64)), .row w.heap.size 55 1 (.slice (some ⟨w.heap.size, 0, none⟩) l.length l.length) l.length (cat cjs)]) (.slice (some ⟨fb, fo, none⟩) l.length c) l) := Hr
                          replace HK : Hid (RdSl iE wl12 (Fr w.heap.size [.row w.heap.size 3 1 (.slice (some ⟨wl7.heap.size, 0, none⟩) 8 8) 8 (Z.map (.int .i64)), .row w.heap.size 55 1 (.slice (some ⟨w.heap.size, 0, none⟩) l.length l.length) l.length (cat cjs)]) (.slice (some ⟨kb, ko, none⟩) 8 ak) K) := HK
                          replace HA : Hid (Held liE wl12 (Fr w.heap.size [.row w.heap.size 3 1 (.slice (some ⟨wl7.heap.size, 0, none⟩) 8 8) 8 (Z.map (.int .i64)), .row w.heap.size 55 1 (.slice (some ⟨w.heap.size, 0, none⟩) l.length l.length) l.length (cat cjs)]) cjs sj) := HA
                          replace Hw : Hid (RdSl iE wl12 (Fr w.heap.size [.row w.heap.size 3 1 (.slice (some ⟨wl7.heap.size, 0, none⟩) 8 8) 8 (Z.map (.int .i64)), .row w.heap.size 55 1 (.slice (some ⟨w.heap.size, 0, none⟩) l.length l.length) l.length (cat cjs)]) (.slice (some ⟨wb, wo, none⟩) ws.length cw) ws) := Hw
                          replace Hre : Hid (RdSl iE wl12 (Fr w.heap.size [.row w.heap.size 3 1 (.slice (some ⟨wl7.heap.size, 0, none⟩) 8 8) 8 (Z.map (.int .i64)), .row w.heap.size 55 1 (.slice (some ⟨w.heap.size, 0, none⟩) l.length l.length) l.length (cat cjs)]) (.slice eb 8 ed) E9) := Hre
                          replace HT : Hid (St w.heap.size w wl12 [.row w.heap.size 3 1 (.slice (some ⟨wl7.heap.size, 0, none⟩) 8 8) 8 (Z.map (.int .i64)), .row w.heap.size 55 1 (.slice (some ⟨w.heap.size, 0, none⟩) l.length l.length) l.length (cat cjs)]) := HT
                          have HZr0 := HT.out.outI (n := w.heap.size) 0 (xs := Z) rfl HZ8.out.symm (by rw [HZ8.out]; omega) (Nat.le_refl _)
                          obtain ⟨T', K'⟩ := HT.out.drop 0
                          simp only [List.eraseIdx_cons_zero] at T' K'
                          replace HT := Lib.hid T'
                          replace Hr := Lib.hid (Hr.out.move (by decide) K')
                          replace HK := Lib.hid (HK.out.move (by decide) K')
                          replace HA := Lib.hid (HA.out.move K')
                          replace Hw := Lib.hid (Hw.out.move (by decide) K')
                          replace Hre := Lib.hid (Hre.out.move (by decide) K')
                          clear T' K'
                          have HZr : Hid (RdSl iE wl12 (Fr w.heap.size [.row w.heap.size 55 1 (.slice (some ⟨w.heap.size, 0, none⟩) l.length l.length) l.length (cat cjs)]) (.slice (some ⟨wl7.heap.size, 0, none⟩) 8 8) Z) := Lib.hid HZr0
                          clear HZr0
                          obtain ⟨sm, hsm⟩ : ∃ sm, decide (Z = E9) = sm := ⟨_, rfl⟩
                          have Gs := fun W S T (h : RdSl iE W S (.slice (some ⟨wl7.heap.size, 0, none⟩) Z.length 8) Z) (h2 : RdSl iE W T (.slice eb E9.length ed) E9) => sameKnown_any S T _ _ _ _ Z E9 HZ8.out HE9.out W h h2 sm hsm
                          rw [HZ8.out, HE9.out] at Gs
                          have GS := Lib.hid Gs
                          have Hsm := Lib.hid hsm
                          clear Gs hsm
                          have d0 := HT.out.rowCell 0 rfl HA.out.size Hce.out (j := 0) rfl
                          rw [Nat.mul_one, Nat.add_zero] at d0
                          have t0 := rd_iat Hw.out HTi.out
                          go_wp2_with fail
                          refine (GS.out _ _ _ HZr.out Hre.out).mono ?_
                          rintro en W' ⟨rfl, qn, rfl⟩
                          clear d0 t0
                          obtain ⟨T', K'⟩ := HT.out.drewN9 qn
                          replace HT := Lib.hid T'
                          replace Hr := Lib.hid (Hr.out.move (by decide) K')
                          replace HK := Lib.hid (HK.out.move (by decide) K')
                          replace HA := Lib.hid (HA.out.move K')
                          replace Hw := Lib.hid (Hw.out.move (by decide) K')
                          replace Hre := Lib.hid (Hre.out.move (by decide) K')
                          replace HZr := Lib.hid (HZr.out.move (by decide) K')
                          clear T' K'
                          replace hz : w.heap.size ≤ ((wl12.drewN qn)).heap.size := hz
                          generalize (wl12.drewN qn) = W15 at *
                          clear GS
                          cases sm
                          · have d0 := HT.out.rowCell 0 rfl HA.out.size Hce.out (j := 0) rfl
                            rw [Nat.mul_one, Nat.add_zero] at d0
                            have t0 := rd_iat Hw.out HTi.out
                            have HN := Lib.hid (Hnx.out.trans (HDiff.out (of_decide_eq_false Hsm.out)))
                            go_wp2_with fail
                            refine wp_region_plan [.still [0, 1, 2, 3, 4, 5], .loud 6 [0, 1, 2, 3, 4], .still [7], .loud 8 []] (by kernel_rfl) (by kernel_rfl) ?_
                            refine plan_still ?_
                            simp only [pick, List.getElem?_toArray, List.getElem?_cons_succ, List.getElem?_cons_zero]
                            repeat still_step
                            refine wpStill_nil ?_
                            refine plan_loud ?_
                            simp only [pick, List.getElem?_toArray, List.getElem?_cons_succ, List.getElem?_cons_zero]
                            obtain ⟨T', K'⟩ := HT.out.drew'
                            replace HT := Lib.hid T'
                            replace Hr := Lib.hid (Hr.out.move (by decide) K')
                            replace HK := Lib.hid (HK.out.move (by decide) K')
                            replace HA := Lib.hid (HA.out.move K')
                            replace Hw := Lib.hid (Hw.out.move (by decide) K')
                            replace Hre := Lib.hid (Hre.out.move (by decide) K')
                            replace HZr := Lib.hid (HZr.out.move (by decide) K')
                            clear T' K'
                            replace hz : w.heap.size ≤ W15.drew.heap.size := hz
                            clear d0 t0
                            generalize W15.drew = W16 at *
                            have d0 := HT.out.rowCell 0 rfl HA.out.size Hce.out (j := 0) rfl
                            rw [Nat.mul_one, Nat.add_zero] at d0
                            have t0 := rd_iat Hw.out HTi.out
                            go_wp2_with (at_builtin; go_loud (refine wpList_append_any _ rfl (.const (.slice none 0 0)) (.tmp 98) _ rfl W16.heap.size 3 j0 _ 1 8 Tryd.underlying55 hj0 hy0 hy1 hy2 rfl (by omega) (.slice none 0 0) 0 [] rfl ⟨by simp, .inl ⟨rfl, rfl⟩⟩ (some ⟨wl7.heap.size, 0, none⟩) 8 8 (Z.map (.int .i64)) rfl (by simpa using HZ8.out) (rdI_cells HZr.out) (fun h => by cases h) (fun u hu => by obtain ⟨x, _, rfl⟩ := List.mem_map.1 hu; rfl) (by unfold maxLen; omega) (by omega) (Nat.le_refl _) ?next))
                            case next =>
                              intro v1 W17 hown hg
                              obtain ⟨A1, c1, rfl⟩ := own_form hown
                              obtain ⟨gn, rfl, hgn⟩ := own_posA hown (by omega)
                              clear d0 t0
                              obtain ⟨T', K'⟩ := HT.out.ownRow ((Below.refl _ _).grown hg (Nat.le_refl _) (fun k hk => by cases hk)) hown (m := w.heap.size) (by omega)
                              replace HT := Lib.hid T'
                              replace Hr := Lib.hid (Hr.out.move (by decide) K')
                              replace HK := Lib.hid (HK.out.move (by decide) K')
                              replace HA := Lib.hid (HA.out.move K')
                              replace Hw := Lib.hid (Hw.out.move (by decide) K')
                              replace Hre := Lib.hid (Hre.out.move (by decide) K')
                              replace HZr := Lib.hid (HZr.out.move (by decide) K')
                              clear T' K'
                              replace hz : w.heap.size ≤ W17.heap.size := Nat.le_trans hz hg.size
                              clear hown hg hgn
                              have f_a := fun i => HT.out.rowFree 1 rfl i
                              have d0 := HT.out.rowCell 1 rfl HA.out.size Hce.out (j := 0) rfl
                              rw [Nat.mul_one, Nat.add_zero] at d0
                              have t0 := rd_iat Hw.out HTi.out
                              go_wp2_with fail
                              refine ⟨?_, ?_⟩
                              · simp only [Again, pick, List.getElem?_toArray, List.getElem?_cons_succ, List.getElem?_cons_zero]
                                refine ⟨?_, ?_, ?_, ?_, ?_, trivial⟩
                                all_goals (still_step; exact wpStill_nil rfl)
                              refine plan_still ?_
                              simp only [pick, List.getElem?_toArray, List.getElem?_cons_succ, List.getElem?_cons_zero]
                              repeat still_step
                              refine wpStill_nil ?_
                              refine plan_loud ?_
                              simp only [pick, List.getElem?_toArray, List.getElem?_cons_succ, List.getElem?_cons_zero]
                              go_wp2_with fail
                              clear f_a d0 t0
                              obtain ⟨T', K'⟩ := HT.out.rowPut 1 t (.slice (some ⟨gn, 0, none⟩) 8 c1) rfl
                              simp only [List.set_cons_succ, List.set_cons_zero] at T' K'
                              replace HT := Lib.hid T'
                              replace Hr := Lib.hid (Hr.out.move (by decide) K')
                              replace HK := Lib.hid (HK.out.move (by decide) K')
                              replace HA := Lib.hid (HA.out.move K')
                              replace Hw := Lib.hid (Hw.out.move (by decide) K')
                              replace Hre := Lib.hid (Hre.out.move (by decide) K')
                              replace HZr := Lib.hid (HZr.out.move (by decide) K')
                              clear T' K'
                              replace hz : w.heap.size ≤ ((W17.setCell ⟨w.heap.size, t, none⟩ (.slice (some ⟨gn, 0, none⟩) 8 c1))).heap.size := by simpa using hz
                              generalize (W17.setCell ⟨w.heap.size, t, none⟩ (.slice (some ⟨gn, 0, none⟩) 8 c1)) = W18 at *
                              rw [cat_set1 HA.out.size (by rw [HA.out.len, Jlen.out]; exact htl)] at HT Hr HK HA Hw Hre HZr
                              replace Hr : Hid (RdSl insE W18 (Fr 0 [.row w.heap.size 3 1 (.slice (some ⟨gn, 0, none⟩) 8 c1) 8 (Z.map (.int .i64)), .row w.heap.size 55 1 (.slice (some ⟨w.heap.size, 0, none⟩) l.length l.length) l.length (cat (cjs.set t [.slice (some ⟨gn, 0, none⟩) 8 c1]))]) (.slice (some ⟨fb, fo, none⟩) l.length c) l) := Hr
                              replace HK : Hid (RdSl iE W18 (Fr w.heap.size [.row w.heap.size 3 1 (.slice (some ⟨gn, 0, none⟩) 8 c1) 8 (Z.map (.int .i64)), .row w.heap.size 55 1 (.slice (some ⟨w.heap.size, 0, none⟩) l.length l.length) l.length (cat (cjs.set t [.slice (some ⟨gn, 0, none⟩) 8 c1]))]) (.slice (some ⟨kb, ko, none⟩) 8 ak) K) := HK
                              replace HA : Hid (Held liE W18 (Fr w.heap.size [.row w.heap.size 3 1 (.slice (some ⟨gn, 0, none⟩) 8 c1) 8 (Z.map (.int .i64)), .row w.heap.size 55 1 (.slice (some ⟨w.heap.size, 0, none⟩) l.length l.length) l.length (cat (cjs.set t [.slice (some ⟨gn, 0, none⟩) 8 c1]))]) cjs sj) := HA
                              replace Hw : Hid (RdSl iE W18 (Fr w.heap.size [.row w.heap.size 3 1 (.slice (some ⟨gn, 0, none⟩) 8 c1) 8 (Z.map (.int .i64)), .row w.heap.size 55 1 (.slice (some ⟨w.heap.size, 0, none⟩) l.length l.length) l.length (cat (cjs.set t [.slice (some ⟨gn, 0, none⟩) 8 c1]))]) (.slice (some ⟨wb, wo, none⟩) ws.length cw) ws) := Hw
                              replace Hre : Hid (RdSl iE W18 (Fr w.heap.size [.row w.heap.size 3 1 (.slice (some ⟨gn, 0, none⟩) 8 c1) 8 (Z.map (.int .i64)), .row w.heap.size 55 1 (.slice (some ⟨w.heap.size, 0, none⟩) l.length l.length) l.length (cat (cjs.set t [.slice (some ⟨gn, 0, none⟩) 8 c1]))]) (.slice eb 8 ed) E9) := Hre
                              replace HZr : Hid (RdSl iE W18 (Fr w.heap.size [.row w.heap.size 3 1 (.slice (some ⟨gn, 0, none⟩) 8 c1) 8 (Z.map (.int .i64)), .row w.heap.size 55 1 (.slice (some ⟨w.heap.size, 0, none⟩) l.length l.length) l.length (cat (cjs.set t [.slice (some ⟨gn, 0, none⟩) 8 c1]))]) (.slice (some ⟨wl7.heap.size, 0, none⟩) 8 8) Z) := HZr
                              replace HT : Hid (St w.heap.size w W18 [.row w.heap.size 3 1 (.slice (some ⟨gn, 0, none⟩) 8 c1) 8 (Z.map (.int .i64)), .row w.heap.size 55 1 (.slice (some ⟨w.heap.size, 0, none⟩) l.length l.length) l.length (cat (cjs.set t [.slice (some ⟨gn, 0, none⟩) 8 c1]))]) := HT
                              refine ⟨trivial, ?_⟩
                              refine plan_end (NoPanic.normal ?_)
                              have hv := HT.out.outI (n := w.heap.size) 0 (xs := Z) rfl HZ8.out.symm (by rw [HZ8.out]; omega) (Nat.le_refl _)
                              obtain ⟨T', K'⟩ := HT.out.drop 0
                              simp only [List.eraseIdx_cons_zero] at T' K'
                              replace HT := Lib.hid T'
                              replace Hr := Lib.hid (Hr.out.move (by decide) K')
                              replace HK := Lib.hid (HK.out.move (by decide) K')
                              replace HA := Lib.hid (HA.out.move K')
                              replace Hw := Lib.hid (Hw.out.move (by decide) K')
                              replace Hre := Lib.hid (Hre.out.move (by decide) K')
                              replace HZr := Lib.hid (HZr.out.move (by decide) K')
                              clear T' K'
                              have hn0 := HA.out.set t (x := Z) (cs := [.slice (some ⟨gn, 0, none⟩) 8 c1]) rfl ⟨_, rfl, hv⟩
                              replace HA : Hid (Held liE W18 (Fr w.heap.size [.row w.heap.size 55 1 (.slice (some ⟨w.heap.size, 0, none⟩) l.length l.length) l.length (cat (cjs.set t [.slice (some ⟨gn, 0, none⟩) 8 c1]))]) (cjs.set t [.slice (some ⟨gn, 0, none⟩) 8 c1]) (sj.set t Z)) := Lib.hid hn0
                              clear hn0 hv
                              clear HZr
                              clear Hre
                              go_wp2_with fail
                              go_roundw
                              case rel =>
                                refine ⟨j + 1, true, sj.set t Z, cjs.set t [.slice (some ⟨gn, 0, none⟩) 8 c1], ?_, ?_, ?_, ?_, ?_, ?_, ?_, ?_, ?_, ?_⟩
                                · go_num
                                · rfl
                                · omega
                                · exact HN.out
                                · with_reducible exact HT.out
                                · with_reducible exact Hr.out
                                · with_reducible exact HK.out
                                · with_reducible exact Hw.out
                                · with_reducible exact HA.out
                                · exact hz
                              case measure => simp [intOf]; omega
                          · have d0 := HT.out.rowCell 0 rfl HA.out.size Hce.out (j := 0) rfl
                            rw [Nat.mul_one, Nat.add_zero] at d0
                            have t0 := rd_iat Hw.out HTi.out
                            have HN := Lib.hid (Hnx.out.trans (HSame.out (of_decide_eq_true Hsm.out)))
                            go_wp2_with fail
                            clear d0 t0
                            clear HZr Hre
                            go_roundw
                            case rel =>
                              refine ⟨j + 1, fj, sj, cjs, ?_, ?_, ?_, ?_, ?_, ?_, ?_, ?_, ?_, ?_⟩
                              · go_num
                              · rfl
                              · omega
                              · exact HN.out
                              · with_reducible exact HT.out
                              · with_reducible exact Hr.out
                              · with_reducible exact HK.out
                              · with_reducible exact Hw.out
                              · with_reducible exact HA.out
                              · exact hz
                            case measure => simp [intOf]; omega
                · have hjj : j = ws.length := by omega
                  have hsj := Hsj.out
                  rw [hjj, List.take_length, ← Hn.out] at hsj
                  have HN := Lib.hid hsj
                  have i4 : ¬ (j : Int) < (ws.length : Int) := by omega
                  clear hsj hjj hj hjt
                  go_wp2_with fail
                  clear Hw HK
                  go_roundw
                  case rel =>
                    refine ⟨k + 1, fj, sj, cjs, ?_, ?_, ?_, ?_, ?_, ?_, ?_, ?_⟩
                    · go_num
                    · rfl
                    · omega
                    · exact HN.out
                    · with_reducible exact HT.out
                    · with_reducible exact Hr.out
                    · with_reducible exact HA.out
                    · exact hz
                  case measure => simp [intOf]; omega
          · have hkk : k = l.length := by omega
            have hst := Hst.out
            rw [hkk] at hst
            obtain ⟨hm, hFI⟩ := flowI_next HFI.out hst
            have i2 : ¬ (k : Int) < (l.length : Int) := by omega
            have HFN := Lib.hid hFI
            clear hFI hst hkk hk hlt
            go_wp2_with fail
            go_roundg (gk - 1)
            case rel =>
              refine ⟨fk, sk, cks, ?_, ?_, ?_, ?_, ?_, ?_⟩
              · rfl
              · exact HFN.out
              · with_reducible exact HT.out
              · with_reducible exact Hr.out
              · with_reducible exact HA.out
              · exact hz
            case measure => exact hm
end
section
open Go.RowKit
set_option maxRecDepth 100000 in
set_option maxHeartbeats 8000000 in
theorem verifiedOf_any (S : Nat → Prop) (A : Option Addr) (c : Nat) (ps : List (List Ins)) (w : World) (hr : RdSl pgE w S (.slice A ps.length c) ps) :
    Calls Tryd.prog 71 #[.agg #[.slice A ps.length c]] w fun e w' => e = .returned (.tuple #[.int .i64 (verP ps).1, .int .i64 (verP ps).2.1, .int .i64 (verP ps).2.2]) ∧ Below w.heap.size w w' := by
  obtain ⟨-, hc1, hc2, hc3⟩ := hr.lims
  have Hr := Lib.hid hr
  clear hr hc3
  have T0 : St w.heap.size w ((w.alloc (.cells #[.slice A ps.length c] 26))) [.blk w.heap.size #[.slice A ps.length c] 26] := ((St.start w (Nat.le_refl _)).new' #[.slice A ps.length c] 26 (w.heap.size) (by simp)).1
  have HT := Lib.hid T0
  have hz : w.heap.size + 1 ≤ (w.alloc (.cells #[.slice A ps.length c] 26)).heap.size := by simp
  clear T0
  replace Hr : Hid (RdSl pgE ((w.alloc (.cells #[.slice A ps.length c] 26))) (Fr 0 [.blk w.heap.size #[.slice A ps.length c] 26]) (.slice A ps.length c) ps) := Lib.hid (RdSl.pool (E := pgE) Hr.out (by show 0 < 1; omega) HT.out)
  go_enter Tryd.func71, Tryd.ntmps71
  go_upto_region 1 with fail
  generalize (w.alloc (.cells #[.slice A ps.length c] 26)) = W1 at *
  obtain ⟨r_p, q_p, -⟩ := HT.out.rules
  have z_p : w.heap.size < W1.heap.size := (HT.out.in_ 0 rfl rfl).2
  by_cases hp : progF ps = 0
  · have hpn : (progF ps != 0) = false := by simpa using hp
    have Hp := Lib.hid hp
    have Hok := Lib.hid (progF_fl hp)
    clear hp
    go_wp2_with fail
    refine (fault_any _ A c ps _ Hr.out).mono ?_
    rintro en W3 ⟨rfl, hb⟩
    clear r_p q_p z_p
    obtain ⟨T', K'⟩ := HT.out.call hb
    replace HT := Lib.hid T'
    replace Hr := Lib.hid (Hr.out.move (by show 0 < 1; omega) K')
    clear T' K'
    replace hz : w.heap.size + 1 ≤ W3.heap.size := Nat.le_trans hz hb.size
    clear hb
    obtain ⟨r_p, q_p, -⟩ := HT.out.rules
    have z_p : w.heap.size < W3.heap.size := (HT.out.in_ 0 rfl rfl).2
    go_wp2_with fail
    go_loopw [6] (fun i wl4 => ∃ k : Nat, i = .int .i64 k ∧ k ≤ ps.length ∧ (∀ j l, j < k → ps[j]? = some l → badL l = none) ∧ St w.heap.size w wl4 [.blk w.heap.size #[.slice A ps.length c] 26] ∧ RdSl pgE wl4 (Fr 0 [.blk w.heap.size #[.slice A ps.length c] 26]) (.slice A ps.length c) ps ∧ w.heap.size + 1 ≤ wl4.heap.size) (fun i _ => ps.length - (intOf i).toNat)
    case atStart =>
      refine ⟨0, ?_, ?_, ?_, ?_, ?_, ?_⟩
      · rfl
      · exact Nat.zero_le _
      · exact fun j l h => absurd h (by omega)
      · with_reducible exact HT.out
      · with_reducible exact Hr.out
      · exact hz
    case round =>
      generalize wr = wl4 at *
      clear HT Hr hz
      obtain ⟨k, rfl, hk, hbk, ht, pHr, hz⟩ := hrel
      have HT := Lib.hid ht
      have Hr : Hid (RdSl pgE wl4 (Fr 0 [.blk w.heap.size #[.slice A ps.length c] 26]) (.slice A ps.length c) ps) := Lib.hid pHr
      clear ht pHr
      have Hbk := Lib.hid hbk
      clear hbk
      obtain ⟨r_p, q_p, -⟩ := HT.out.rules
      have z_p : w.heap.size < wl4.heap.size := (HT.out.in_ 0 rfl rfl).2
      by_cases hlt : k < ps.length
      · obtain ⟨l, hl⟩ : ∃ l, ps[k]? = some l := ⟨ps[k], List.getElem?_eq_getElem hlt⟩
        obtain ⟨fb, fo, lb, lc, rfl, _, _, y0, hrl⟩ := Hr.out.at_s hl
        have Hfl := Lib.hid (Hok.out.2.2 l (List.mem_of_getElem? hl))
        have Hfl1 := Hfl.out.one
        have Hfl6 := Hfl.out.few
        have HL := Lib.hid hl
        have Hrl := Lib.hid hrl
        have i1 : (0 : Int) ≤ (k : Int) := by omega
        have i2 : (k : Int) < (ps.length : Int) := by omega
        clear hl hrl
        replace Hrl : Hid (RdSl insE wl4 (Fr 0 [.blk w.heap.size #[.slice (some ⟨fb, fo, none⟩) ps.length c] 26]) (.slice lb l.length lc) l) := Hrl
        clear r_p q_p z_p
        obtain ⟨r_p, q_p, -⟩ := HT.out.rules
        have z_p : w.heap.size < wl4.heap.size := (HT.out.in_ 0 rfl rfl).2
        go_wp2_with fail
        refine (flowOf_any _ lb lc l Hfl.out _ Hrl.out).mono ?_
        rintro en W5 ⟨Aa, ca, rfl, hra, hb⟩
        clear r_p q_p z_p
        have Hfresh := Lib.hid (HT.out)
        have hzo : w.heap.size ≤ wl4.heap.size := by omega
        obtain ⟨T', K'⟩ := HT.out.call hb
        replace HT := Lib.hid T'
        replace Hr := Lib.hid (Hr.out.move (by show 0 < 1; omega) K')
        replace Hrl := Lib.hid (Hrl.out.move (by decide) K')
        clear T' K'
        replace hz : w.heap.size + 1 ≤ W5.heap.size := Nat.le_trans hz hb.size
        clear hb
        have Ha : Hid (RdSl liE W5 (Fr w.heap.size [.blk w.heap.size #[.slice (some ⟨fb, fo, none⟩) ps.length c] 26]) (.slice Aa l.length ca) (flowL l)) := Lib.hid (hra.fresh (by first | decide | (show 0 < 1; omega)) Hfresh.out hzo)
        clear hra
        clear Hfresh hzo
        obtain ⟨r_p, q_p, -⟩ := HT.out.rules
        have z_p : w.heap.size < W5.heap.size := (HT.out.in_ 0 rfl rfl).2
        clear y0
        have Hfe := Lib.hid (flowL_eights l)
        have Hfn := Lib.hid (flowL_len (l := l) (by intro h; rw [h] at Hfl1; exact absurd Hfl1 (by decide)))
        go_wp2_with fail
        go_loopw [8] (fun i wl6 => ∃ j : Nat, i = .int .i64 j ∧ j ≤ l.length ∧ (∀ i, i < j → badI l i = false) ∧ St w.heap.size w wl6 [.blk w.heap.size #[.slice (some ⟨fb, fo, none⟩) ps.length c] 26] ∧ RdSl pgE wl6 (Fr 0 [.blk w.heap.size #[.slice (some ⟨fb, fo, none⟩) ps.length c] 26]) (.slice (some ⟨fb, fo, none⟩) ps.length c) ps ∧ RdSl insE wl6 (Fr 0 [.blk w.heap.size #[.slice (some ⟨fb, fo, none⟩) ps.length c] 26]) (.slice lb l.length lc) l ∧ RdSl liE wl6 (Fr w.heap.size [.blk w.heap.size #[.slice (some ⟨fb, fo, none⟩) ps.length c] 26]) (.slice Aa l.length ca) (flowL l) ∧ w.heap.size + 1 ≤ wl6.heap.size) (fun i _ => l.length - (intOf i).toNat)
        case atStart =>
          refine ⟨0, ?_, ?_, ?_, ?_, ?_, ?_, ?_, ?_⟩
          · rfl
          · exact Nat.zero_le _
          · exact fun i h => absurd h (by omega)
          · with_reducible exact HT.out
          · with_reducible exact Hr.out
          · with_reducible exact Hrl.out
          · with_reducible exact Ha.out
          · exact hz
        case round =>
          generalize wr = wl6 at *
          clear HT Hr Hrl Ha hz
          obtain ⟨j, rfl, hj, hbj, ht, pHr, pHrl, pHa, hz⟩ := hrel
          have HT := Lib.hid ht
          have Hr : Hid (RdSl pgE wl6 (Fr 0 [.blk w.heap.size #[.slice (some ⟨fb, fo, none⟩) ps.length c] 26]) (.slice (some ⟨fb, fo, none⟩) ps.length c) ps) := Lib.hid pHr
          have Hrl : Hid (RdSl insE wl6 (Fr 0 [.blk w.heap.size #[.slice (some ⟨fb, fo, none⟩) ps.length c] 26]) (.slice lb l.length lc) l) := Lib.hid pHrl
          have Ha : Hid (RdSl liE wl6 (Fr w.heap.size [.blk w.heap.size #[.slice (some ⟨fb, fo, none⟩) ps.length c] 26]) (.slice Aa l.length ca) (flowL l)) := Lib.hid pHa
          clear ht pHr pHrl pHa
          have Hbj := Lib.hid hbj
          clear hbj
          obtain ⟨r_p, q_p, -⟩ := HT.out.rules
          have z_p : w.heap.size < wl6.heap.size := (HT.out.in_ 0 rfl rfl).2
          by_cases hjt : j < l.length
          · obtain ⟨x, hx⟩ : ∃ x, l[j]? = some x := ⟨l[j], List.getElem?_eq_getElem hjt⟩
            obtain ⟨op, xn, ra, rb, rfl, hop, hra, hrb⟩ := (Hfl.out.ins j x hx).nat
            obtain ⟨e, he⟩ : ∃ e, (flowL l)[j]? = some e := ⟨(flowL l)[j]'(by rw [Hfn.out]; exact hjt), List.getElem?_eq_getElem _⟩
            obtain ⟨ab, ao, eb, ed, rfl, _, _, d0, hre⟩ := RdSl.at_s (hs := by decide) Ha.out he
            obtain ⟨fb2, fo2, lb2, lc2, hA2, _, _, y0, hrl2⟩ := RdSl.at_s (hs := by decide) Hr.out HL.out
            obtain ⟨xb, xo, rfl, _, _, x0, x1, x2, x3⟩ := hrl2.at_n hx
            obtain ⟨rfl, rfl⟩ : fb = fb2 ∧ fo = fo2 := by injection hA2 with h; injection h with h1 h2; exact ⟨h1, h2⟩
            have HX := Lib.hid hx
            have i3 : (0 : Int) ≤ (j : Int) := by omega
            have i4 : (j : Int) < (l.length : Int) := by omega
            clear hx hA2 hrl2
            rcases e with _ | ⟨e, es⟩
            · replace d0 : wl6.cell? ⟨ab, ao + j, none⟩ = some (.slice eb 0 ed) := d0
              have HB := Lib.hid (badI_none he)
              have HN : Hid (∀ i, i < j + 1 → badI l i = false) := Lib.hid (fun i hi => by
                by_cases hij : i = j
                · rw [hij]; exact HB.out
                · exact Hbj.out i (by omega))
              clear he hre
              go_wp2_with fail
              go_quiet (fail)
              clear r_p q_p z_p
              clear d0 x0 x1 x2 x3 y0
              obtain ⟨T', K'⟩ := HT.out.drewN9 nq
              replace HT := Lib.hid T'
              replace Hr := Lib.hid (Hr.out.move (by show 0 < 1; omega) K')
              replace Hrl := Lib.hid (Hrl.out.move (by decide) K')
              replace Ha := Lib.hid (Ha.out.move (by show 0 < 1; omega) K')
              clear T' K'
              replace hz : w.heap.size + 1 ≤ ((wl6.drewN nq)).heap.size := hz
              generalize (wl6.drewN nq) = W7 at *
              go_wp2_with fail
              go_roundw
              case rel =>
                refine ⟨j + 1, ?_, ?_, ?_, ?_, ?_, ?_, ?_, ?_⟩
                · go_num
                · omega
                · exact HN.out
                · with_reducible exact HT.out
                · with_reducible exact Hr.out
                · with_reducible exact Hrl.out
                · with_reducible exact Ha.out
                · exact hz
              case measure => simp [intOf]; omega
            · have h8 : (e :: es).length = 8 := (Hfe.out _ (List.mem_of_getElem? he)).elim (fun h => by cases h) id
              have hB := badI_some he HX.out
              generalize hE : e :: es = E8 at *
              obtain ⟨m, hm⟩ : ∃ m, mayB E8 ⟨op, ra, rb, xn⟩ = m := ⟨_, rfl⟩
              rw [hm] at hB
              have G := fun W S (h : RdSl iE W S (.slice eb E8.length ed) E8) => mayBeDone_any S eb ed E8 h8 op xn ra rb hop hra hrb W h
              rw [hm, h8] at G
              rw [h8] at d0 hre
              have G1 := Lib.hid G
              have HB0 := Lib.hid hB
              have Hre := Lib.hid hre
              clear G hE h8 hm hB he hre
              cases m
              · have HE := Lib.hid (verP_no Hp.out HL.out (badL_some hjt HB0.out Hbj.out) Hbk.out)
                go_wp2_with fail
                refine wp_region_plan [.still [0, 1, 2, 3, 4, 5, 6, 7, 8, 9, 10, 11, 12, 13, 14, 15, 16, 17, 18], .loud 19 [], .still [20, 21]] (by kernel_rfl) (by kernel_rfl) ?_
                refine plan_still ?_
                simp only [pick, List.getElem?_toArray, List.getElem?_cons_succ, List.getElem?_cons_zero]
                repeat still_step
                refine wpStill_nil ?_
                refine plan_loud ?_
                simp only [pick, List.getElem?_toArray, List.getElem?_cons_succ, List.getElem?_cons_zero]
                go_wp2_with fail
                obtain ⟨T', K'⟩ := HT.out.drew'
                replace HT := Lib.hid T'
                replace Hr := Lib.hid (Hr.out.move (by show 0 < 1; omega) K')
                replace Hrl := Lib.hid (Hrl.out.move (by decide) K')
                replace Ha := Lib.hid (Ha.out.move (by show 0 < 1; omega) K')
                replace Hre := Lib.hid (Hre.out.move (by decide) K')
                clear T' K'
                replace hz : w.heap.size + 1 ≤ wl6.drew.heap.size := hz
                refine (G1.out _ _ Hre.out).mono ?_
                rintro en W10 ⟨rfl, hb⟩
                clear r_p q_p z_p
                obtain ⟨T', K'⟩ := HT.out.call hb
                replace HT := Lib.hid T'
                replace Hr := Lib.hid (Hr.out.move (by show 0 < 1; omega) K')
                replace Hrl := Lib.hid (Hrl.out.move (by decide) K')
                replace Ha := Lib.hid (Ha.out.move (by show 0 < 1; omega) K')
                replace Hre := Lib.hid (Hre.out.move (by decide) K')
                clear T' K'
                replace hz : w.heap.size + 1 ≤ W10.heap.size := Nat.le_trans hz hb.size
                clear hb
                clear d0 x0 x1 x2 x3 y0
                go_wp2_with fail
                refine ⟨trivial, ?_⟩
                refine plan_still ?_
                simp only [pick, List.getElem?_toArray, List.getElem?_cons_succ, List.getElem?_cons_zero]
                repeat still_step
                refine wpStill_nil ?_
                refine plan_end (NoPanic.normal ?_)
                generalize W10 = W11 at *
                go_wp2_with fail
                go_ret3
                rw [HE.out]
                exact ⟨rfl, HT.out.below⟩
              · have HB : Hid (badI l j = false) := HB0
                have HN : Hid (∀ i, i < j + 1 → badI l i = false) := Lib.hid (fun i hi => by
                  by_cases hij : i = j
                  · rw [hij]; exact HB.out
                  · exact Hbj.out i (by omega))
                go_wp2_with fail
                refine wp_region_plan [.still [0, 1, 2, 3, 4, 5, 6, 7, 8, 9, 10, 11, 12, 13, 14, 15, 16, 17, 18], .loud 19 [], .still [20, 21]] (by kernel_rfl) (by kernel_rfl) ?_
                refine plan_still ?_
                simp only [pick, List.getElem?_toArray, List.getElem?_cons_succ, List.getElem?_cons_zero]
                repeat still_step
                refine wpStill_nil ?_
                refine plan_loud ?_
                simp only [pick, List.getElem?_toArray, List.getElem?_cons_succ, List.getElem?_cons_zero]
                go_wp2_with fail
                obtain ⟨T', K'⟩ := HT.out.drew'
                replace HT := Lib.hid T'
                replace Hr := Lib.hid (Hr.out.move (by show 0 < 1; omega) K')
                replace Hrl := Lib.hid (Hrl.out.move (by decide) K')
                replace Ha := Lib.hid (Ha.out.move (by show 0 < 1; omega) K')
                replace Hre := Lib.hid (Hre.out.move (by decide) K')
                clear T' K'
                replace hz : w.heap.size + 1 ≤ wl6.drew.heap.size := hz
                refine (G1.out _ _ Hre.out).mono ?_
                rintro en W8 ⟨rfl, hb⟩
                clear r_p q_p z_p
                obtain ⟨T', K'⟩ := HT.out.call hb
                replace HT := Lib.hid T'
                replace Hr := Lib.hid (Hr.out.move (by show 0 < 1; omega) K')
                replace Hrl := Lib.hid (Hrl.out.move (by decide) K')
                replace Ha := Lib.hid (Ha.out.move (by show 0 < 1; omega) K')
                replace Hre := Lib.hid (Hre.out.move (by decide) K')
                clear T' K'
                replace hz : w.heap.size + 1 ≤ W8.heap.size := Nat.le_trans hz hb.size
                clear hb
                clear d0 x0 x1 x2 x3 y0
                go_wp2_with fail
                refine ⟨trivial, ?_⟩
                refine plan_still ?_
                simp only [pick, List.getElem?_toArray, List.getElem?_cons_succ, List.getElem?_cons_zero]
                repeat still_step
                refine wpStill_nil ?_
                refine plan_end (NoPanic.normal ?_)
                generalize W8 = W9 at *
                clear Hre G1
                obtain ⟨r_p, q_p, -⟩ := HT.out.rules
                have z_p : w.heap.size < W9.heap.size := (HT.out.in_ 0 rfl rfl).2
                go_wp2_with fail
                clear r_p q_p z_p
                go_roundw
                case rel =>
                  refine ⟨j + 1, ?_, ?_, ?_, ?_, ?_, ?_, ?_, ?_⟩
                  · go_num
                  · omega
                  · exact HN.out
                  · with_reducible exact HT.out
                  · with_reducible exact Hr.out
                  · with_reducible exact Hrl.out
                  · with_reducible exact Ha.out
                  · exact hz
                case measure => simp [intOf]; omega
          · have hN := badL_none (l := l) (fun i hi => Hbj.out i (by omega))
            have HN : Hid (∀ j l, j < k + 1 → ps[j]? = some l → badL l = none) := Lib.hid (fun i l2 hi h2 => by
              by_cases hik : i = k
              · subst hik; rw [HL.out] at h2; injection h2 with h2; rw [← h2]; exact hN
              · exact Hbk.out i l2 (by omega) h2)
            have i4 : ¬ (j : Int) < (l.length : Int) := by omega
            clear hN
            go_wp2_with fail
            clear r_p q_p z_p
            clear Hrl Ha
            go_roundw
            case rel =>
              refine ⟨k + 1, ?_, ?_, ?_, ?_, ?_, ?_⟩
              · go_num
              · omega
              · exact HN.out
              · with_reducible exact HT.out
              · with_reducible exact Hr.out
              · exact hz
            case measure => simp [intOf]; omega
      · have hE := verP_ok Hp.out (fun l hl => by obtain ⟨j, hj⟩ := List.getElem?_of_mem hl; exact Hbk.out j l (by have := (List.getElem?_eq_some_iff.1 hj).1; omega) hj)
        have HE := Lib.hid hE
        have i2 : ¬ (k : Int) < (ps.length : Int) := by omega
        clear hE
        go_wp2_with fail
        go_ret3
        rw [HE.out]
        exact ⟨rfl, HT.out.below⟩
  · have HE := Lib.hid (verP_bad hp)
    have hpn : (progF ps != 0) = true := by simpa using hp
    clear hp
    go_wp2_with fail
    refine (fault_any _ A c ps _ Hr.out).mono ?_
    rintro en W2 ⟨rfl, hb⟩
    clear r_p q_p z_p
    obtain ⟨T', K'⟩ := HT.out.call hb
    replace HT := Lib.hid T'
    replace Hr := Lib.hid (Hr.out.move (by show 0 < 1; omega) K')
    clear T' K'
    replace hz : w.heap.size + 1 ≤ W2.heap.size := Nat.le_trans hz hb.size
    clear hb
    obtain ⟨r_p, q_p, -⟩ := HT.out.rules
    have z_p : w.heap.size < W2.heap.size := (HT.out.in_ 0 rfl rfl).2
    go_wp2_with fail
    go_ret3
    rw [HE.out]
    exact ⟨rfl, HT.out.below⟩
end
end Go.Proofs.YtabcjdalifhpdaaDoor
