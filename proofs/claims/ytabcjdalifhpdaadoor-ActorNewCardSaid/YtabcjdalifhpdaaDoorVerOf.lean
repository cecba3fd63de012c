/- The walk of treadwheelref.VerifiedOf. No condition beside what is read. -/
import Derived.Test.YtabcjdalifhpdaaDoorFlowOf
import Derived.Test.YtabcjdalifhpdaaDoorFault
import Derived.Test.YtabcjdalifhpdaaDoorDecL
namespace Go.Proofs.YtabcjdalifhpdaaDoor
open Go.RowKit

set_option maxRecDepth 100000 in
set_option maxHeartbeats 8000000 in
theorem verifiedOf_any (S : Nat → Prop) (A : Option Addr) (c : Nat) (ps : List (List Ins)) (w : World) (hr : RdSl pgE w S (.slice A ps.length c) ps) :
    Calls Tryd.prog 71 #[.agg #[.slice A ps.length c]] w fun e w' => e = .returned (.tuple #[.int .i64 (verP ps).1, .int .i64 (verP ps).2.1, .int .i64 (verP ps).2.2]) ∧ Below w.heap.size w w' := by
  obtain ⟨-, hc1, hc2, hc3⟩ := hr.lims
  have Hr := Lib.hid hr
  clear hr hc3
  have T0 : St w.heap.size w ((w.alloc (.cells #[.slice A ps.length c] 26))) [.blk w.heap.size #[.slice A ps.length c] 26] := ((St.start w (Nat.le_refl _)).new' #[.slice A ps.length c] 26 (w.heap.size) (by simp)).1
  have HT := Lib.hid T0
  have hz : w.heap.size + 1 ≤ (w.alloc (.cells #[.slice A ps.length c] 26)).heap.size := by simp
  clear T0
  replace Hr : Hid (RdSl pgE ((w.alloc (.cells #[.slice A ps.length c] 26))) (Fr 0 [.blk w.heap.size #[.slice A ps.length c] 26]) (.slice A ps.length c) ps) := Lib.hid (RdSl.pool (E := pgE) Hr.out (by show 0 < 1; omega) HT.out)
  go_enter Tryd.func71, Tryd.ntmps71
  go_upto_region 1 with fail
  generalize (w.alloc (.cells #[.slice A ps.length c] 26)) = W1 at *
  obtain ⟨r_p, q_p, -⟩ := HT.out.rules
  have z_p : w.heap.size < W1.heap.size := (HT.out.in_ 0 rfl rfl).2
  by_cases hp : progF ps = 0
  · have hpn : (progF ps != 0) = false := by simpa using hp
    have Hp := Lib.hid hp
    have Hok := Lib.hid (progF_fl hp)
    clear hp
    go_wp2_with fail
    refine (fault_any _ A c ps _ Hr.out).mono ?_
    rintro en W3 ⟨rfl, hb⟩
    clear r_p q_p z_p
    obtain ⟨T', K'⟩ := HT.out.call hb
    replace HT := Lib.hid T'
    replace Hr := Lib.hid (Hr.out.move (by show 0 < 1; omega) K')
    clear T' K'
    replace hz : w.heap.size + 1 ≤ W3.heap.size := Nat.le_trans hz hb.size
    clear hb
    obtain ⟨r_p, q_p, -⟩ := HT.out.rules
    have z_p : w.heap.size < W3.heap.size := (HT.out.in_ 0 rfl rfl).2
    go_wp2_with fail
    go_loopw [6] (fun i wl4 => ∃ k : Nat, i = .int .i64 k ∧ k ≤ ps.length ∧ (∀ j l, j < k → ps[j]? = some l → badL l = none) ∧ St w.heap.size w wl4 [.blk w.heap.size #[.slice A ps.length c] 26] ∧ RdSl pgE wl4 (Fr 0 [.blk w.heap.size #[.slice A ps.length c] 26]) (.slice A ps.length c) ps ∧ w.heap.size + 1 ≤ wl4.heap.size) (fun i _ => ps.length - (intOf i).toNat)
    case atStart =>
      refine ⟨0, ?_, ?_, ?_, ?_, ?_, ?_⟩
      · rfl
      · exact Nat.zero_le _
      · exact fun j l h => absurd h (by omega)
      · with_reducible exact HT.out
      · with_reducible exact Hr.out
      · exact hz
    case round =>
      generalize wr = wl4 at *
      clear HT Hr hz
      obtain ⟨k, rfl, hk, hbk, ht, pHr, hz⟩ := hrel
      have HT := Lib.hid ht
      have Hr : Hid (RdSl pgE wl4 (Fr 0 [.blk w.heap.size #[.slice A ps.length c] 26]) (.slice A ps.length c) ps) := Lib.hid pHr
      clear ht pHr
      have Hbk := Lib.hid hbk
      clear hbk
      obtain ⟨r_p, q_p, -⟩ := HT.out.rules
      have z_p : w.heap.size < wl4.heap.size := (HT.out.in_ 0 rfl rfl).2
      by_cases hlt : k < ps.length
      · obtain ⟨l, hl⟩ : ∃ l, ps[k]? = some l := ⟨ps[k], List.getElem?_eq_getElem hlt⟩
        obtain ⟨fb, fo, lb, lc, rfl, _, _, y0, hrl⟩ := Hr.out.at_s hl
        have Hfl := Lib.hid (Hok.out.2.2 l (List.mem_of_getElem? hl))
        have Hfl1 := Hfl.out.one
        have Hfl6 := Hfl.out.few
        have HL := Lib.hid hl
        have Hrl := Lib.hid hrl
        have i1 : (0 : Int) ≤ (k : Int) := by omega
        have i2 : (k : Int) < (ps.length : Int) := by omega
        clear hl hrl
        replace Hrl : Hid (RdSl insE wl4 (Fr 0 [.blk w.heap.size #[.slice (some ⟨fb, fo, none⟩) ps.length c] 26]) (.slice lb l.length lc) l) := Hrl
        clear r_p q_p z_p
        obtain ⟨r_p, q_p, -⟩ := HT.out.rules
        have z_p : w.heap.size < wl4.heap.size := (HT.out.in_ 0 rfl rfl).2
        go_wp2_with fail
        refine (flowOf_any _ lb lc l Hfl.out _ Hrl.out).mono ?_
        rintro en W5 ⟨Aa, ca, rfl, hra, hb⟩
        clear r_p q_p z_p
        have Hfresh := Lib.hid (HT.out)
        have hzo : w.heap.size ≤ wl4.heap.size := by omega
        obtain ⟨T', K'⟩ := HT.out.call hb
        replace HT := Lib.hid T'
        replace Hr := Lib.hid (Hr.out.move (by show 0 < 1; omega) K')
        replace Hrl := Lib.hid (Hrl.out.move (by decide) K')
        clear T' K'
        replace hz : w.heap.size + 1 ≤ W5.heap.size := Nat.le_trans hz hb.size
        clear hb
        have Ha : Hid (RdSl liE W5 (Fr w.heap.size [.blk w.heap.size #[.slice (some ⟨fb, fo, none⟩) ps.length c] 26]) (.slice Aa l.length ca) (flowL l)) := Lib.hid (hra.fresh (by first | decide | (show 0 < 1; omega)) Hfresh.out hzo)
        clear hra
        clear Hfresh hzo
        obtain ⟨r_p, q_p, -⟩ := HT.out.rules
        have z_p : w.heap.size < W5.heap.size := (HT.out.in_ 0 rfl rfl).2
        clear y0
        have Hfe := Lib.hid (flowL_eights l)
        have Hfn := Lib.hid (flowL_len (l := l) (by intro h; rw [h] at Hfl1; exact absurd Hfl1 (by decide)))
        go_wp2_with fail
        go_loopw [8] (fun i wl6 => ∃ j : Nat, i = .int .i64 j ∧ j ≤ l.length ∧ (∀ i, i < j → badI l i = false) ∧ St w.heap.size w wl6 [.blk w.heap.size #[.slice (some ⟨fb, fo, none⟩) ps.length c] 26] ∧ RdSl pgE wl6 (Fr 0 [.blk w.heap.size #[.slice (some ⟨fb, fo, none⟩) ps.length c] 26]) (.slice (some ⟨fb, fo, none⟩) ps.length c) ps ∧ RdSl insE wl6 (Fr 0 [.blk w.heap.size #[.slice (some ⟨fb, fo, none⟩) ps.length c] 26]) (.slice lb l.length lc) l ∧ RdSl liE wl6 (Fr w.heap.size [.blk w.heap.size #[.slice (some ⟨fb, fo, none⟩) ps.length c] 26]) (.slice Aa l.length ca) (flowL l) ∧ w.heap.size + 1 ≤ wl6.heap.size) (fun i _ => l.length - (intOf i).toNat)
        case atStart =>
          refine ⟨0, ?_, ?_, ?_, ?_, ?_, ?_, ?_, ?_⟩
          · rfl
          · exact Nat.zero_le _
          · exact fun i h => absurd h (by omega)
          · with_reducible exact HT.out
          · with_reducible exact Hr.out
          · with_reducible exact Hrl.out
          · with_reducible exact Ha.out
          · exact hz
        case round =>
          generalize wr = wl6 at *
          clear HT Hr Hrl Ha hz
          obtain ⟨j, rfl, hj, hbj, ht, pHr, pHrl, pHa, hz⟩ := hrel
          have HT := Lib.hid ht
          have Hr : Hid (RdSl pgE wl6 (Fr 0 [.blk w.heap.size #[.slice (some ⟨fb, fo, none⟩) ps.length c] 26]) (.slice (some ⟨fb, fo, none⟩) ps.length c) ps) := Lib.hid pHr
          have Hrl : Hid (RdSl insE wl6 (Fr 0 [.blk w.heap.size #[.slice (some ⟨fb, fo, none⟩) ps.length c] 26]) (.slice lb l.length lc) l) := Lib.hid pHrl
          have Ha : Hid (RdSl liE wl6 (Fr w.heap.size [.blk w.heap.size #[.slice (some ⟨fb, fo, none⟩) ps.length c] 26]) (.slice Aa l.length ca) (flowL l)) := Lib.hid pHa
          clear ht pHr pHrl pHa
          have Hbj := Lib.hid hbj
          clear hbj
          obtain ⟨r_p, q_p, -⟩ := HT.out.rules
          have z_p : w.heap.size < wl6.heap.size := (HT.out.in_ 0 rfl rfl).2
          by_cases hjt : j < l.length
          · obtain ⟨x, hx⟩ : ∃ x, l[j]? = some x := ⟨l[j], List.getElem?_eq_getElem hjt⟩
            obtain ⟨op, xn, ra, rb, rfl, hop, hra, hrb⟩ := (Hfl.out.ins j x hx).nat
            obtain ⟨e, he⟩ : ∃ e, (flowL l)[j]? = some e := ⟨(flowL l)[j]'(by rw [Hfn.out]; exact hjt), List.getElem?_eq_getElem _⟩
            obtain ⟨ab, ao, eb, ed, rfl, _, _, d0, hre⟩ := RdSl.at_s (hs := by decide) Ha.out he
            obtain ⟨fb2, fo2, lb2, lc2, hA2, _, _, y0, hrl2⟩ := RdSl.at_s (hs := by decide) Hr.out HL.out
            obtain ⟨xb, xo, rfl, _, _, x0, x1, x2, x3⟩ := hrl2.at_n hx
            obtain ⟨rfl, rfl⟩ : fb = fb2 ∧ fo = fo2 := by injection hA2 with h; injection h with h1 h2; exact ⟨h1, h2⟩
            have HX := Lib.hid hx
            have i3 : (0 : Int) ≤ (j : Int) := by omega
            have i4 : (j : Int) < (l.length : Int) := by omega
            clear hx hA2 hrl2
            rcases e with _ | ⟨e, es⟩
            · replace d0 : wl6.cell? ⟨ab, ao + j, none⟩ = some (.slice eb 0 ed) := d0
              have HB := Lib.hid (badI_none he)
              have HN : Hid (∀ i, i < j + 1 → badI l i = false) := Lib.hid (fun i hi => by
                by_cases hij : i = j
                · rw [hij]; exact HB.out
                · exact Hbj.out i (by omega))
              clear he hre
              go_wp2_with fail
              go_quiet (fail)
              clear r_p q_p z_p
              clear d0 x0 x1 x2 x3 y0
              obtain ⟨T', K'⟩ := HT.out.drewN9 nq
              replace HT := Lib.hid T'
              replace Hr := Lib.hid (Hr.out.move (by show 0 < 1; omega) K')
              replace Hrl := Lib.hid (Hrl.out.move (by decide) K')
              replace Ha := Lib.hid (Ha.out.move (by show 0 < 1; omega) K')
              clear T' K'
              replace hz : w.heap.size + 1 ≤ ((wl6.drewN nq)).heap.size := hz
              generalize (wl6.drewN nq) = W7 at *
              go_wp2_with fail
              go_roundw
              case rel =>
                refine ⟨j + 1, ?_, ?_, ?_, ?_, ?_, ?_, ?_, ?_⟩
                · go_num
                · omega
                · exact HN.out
                · with_reducible exact HT.out
                · with_reducible exact Hr.out
                · with_reducible exact Hrl.out
                · with_reducible exact Ha.out
                · exact hz
              case measure => simp [intOf]; omega
            · have h8 : (e :: es).length = 8 := (Hfe.out _ (List.mem_of_getElem? he)).elim (fun h => by cases h) id
              have hB := badI_some he HX.out
              generalize hE : e :: es = E8 at *
              obtain ⟨m, hm⟩ : ∃ m, mayB E8 ⟨op, ra, rb, xn⟩ = m := ⟨_, rfl⟩
              rw [hm] at hB
              have G := fun W S (h : RdSl iE W S (.slice eb E8.length ed) E8) => mayBeDone_any S eb ed E8 h8 op xn ra rb hop hra hrb W h
              rw [hm, h8] at G
              rw [h8] at d0 hre
              have G1 := Lib.hid G
              have HB0 := Lib.hid hB
              have Hre := Lib.hid hre
              clear G hE h8 hm hB he hre
              cases m
              · have HE := Lib.hid (verP_no Hp.out HL.out (badL_some hjt HB0.out Hbj.out) Hbk.out)
                go_wp2_with fail
                refine wp_region_plan [.still [0, 1, 2, 3, 4, 5, 6, 7, 8, 9, 10, 11, 12, 13, 14, 15, 16, 17, 18], .loud 19 [], .still [20, 21]] (by kernel_rfl) (by kernel_rfl) ?_
                refine plan_still ?_
                simp only [pick, List.getElem?_toArray, List.getElem?_cons_succ, List.getElem?_cons_zero]
                repeat still_step
                refine wpStill_nil ?_
                refine plan_loud ?_
                simp only [pick, List.getElem?_toArray, List.getElem?_cons_succ, List.getElem?_cons_zero]
                go_wp2_with fail
                obtain ⟨T', K'⟩ := HT.out.drew'
                replace HT := Lib.hid T'
                replace Hr := Lib.hid (Hr.out.move (by show 0 < 1; omega) K')
                replace Hrl := Lib.hid (Hrl.out.move (by decide) K')
                replace Ha := Lib.hid (Ha.out.move (by show 0 < 1; omega) K')
                replace Hre := Lib.hid (Hre.out.move (by decide) K')
                clear T' K'
                replace hz : w.heap.size + 1 ≤ wl6.drew.heap.size := hz
                refine (G1.out _ _ Hre.out).mono ?_
                rintro en W10 ⟨rfl, hb⟩
                clear r_p q_p z_p
                obtain ⟨T', K'⟩ := HT.out.call hb
                replace HT := Lib.hid T'
                replace Hr := Lib.hid (Hr.out.move (by show 0 < 1; omega) K')
                replace Hrl := Lib.hid (Hrl.out.move (by decide) K')
                replace Ha := Lib.hid (Ha.out.move (by show 0 < 1; omega) K')
                replace Hre := Lib.hid (Hre.out.move (by decide) K')
                clear T' K'
                replace hz : w.heap.size + 1 ≤ W10.heap.size := Nat.le_trans hz hb.size
                clear hb
                clear d0 x0 x1 x2 x3 y0
                go_wp2_with fail
                refine ⟨trivial, ?_⟩
                refine plan_still ?_
                simp only [pick, List.getElem?_toArray, List.getElem?_cons_succ, List.getElem?_cons_zero]
                repeat still_step
                refine wpStill_nil ?_
                refine plan_end (NoPanic.normal ?_)
                generalize W10 = W11 at *
                go_wp2_with fail
                go_ret3
                rw [HE.out]
                exact ⟨rfl, HT.out.below⟩
              · have HB : Hid (badI l j = false) := HB0
                have HN : Hid (∀ i, i < j + 1 → badI l i = false) := Lib.hid (fun i hi => by
                  by_cases hij : i = j
                  · rw [hij]; exact HB.out
                  · exact Hbj.out i (by omega))
                go_wp2_with fail
                refine wp_region_plan [.still [0, 1, 2, 3, 4, 5, 6, 7, 8, 9, 10, 11, 12, 13, 14, 15, 16, 17, 18], .loud 19 [], .still [20, 21]] (by kernel_rfl) (by kernel_rfl) ?_
                refine plan_still ?_
                simp only [pick, List.getElem?_toArray, List.getElem?_cons_succ, List.getElem?_cons_zero]
                repeat still_step
                refine wpStill_nil ?_
                refine plan_loud ?_
                simp only [pick, List.getElem?_toArray, List.getElem?_cons_succ, List.getElem?_cons_zero]
                go_wp2_with fail
                obtain ⟨T', K'⟩ := HT.out.drew'
                replace HT := Lib.hid T'
                replace Hr := Lib.hid (Hr.out.move (by show 0 < 1; omega) K')
                replace Hrl := Lib.hid (Hrl.out.move (by decide) K')
                replace Ha := Lib.hid (Ha.out.move (by show 0 < 1; omega) K')
                replace Hre := Lib.hid (Hre.out.move (by decide) K')
                clear T' K'
                replace hz : w.heap.size + 1 ≤ wl6.drew.heap.size := hz
                refine (G1.out _ _ Hre.out).mono ?_
                rintro en W8 ⟨rfl, hb⟩
                clear r_p q_p z_p
                obtain ⟨T', K'⟩ := HT.out.call hb
                replace HT := Lib.hid T'
                replace Hr := Lib.hid (Hr.out.move (by show 0 < 1; omega) K')
                replace Hrl := Lib.hid (Hrl.out.move (by decide) K')
                replace Ha := Lib.hid (Ha.out.move (by show 0 < 1; omega) K')
                replace Hre := Lib.hid (Hre.out.move (by decide) K')
                clear T' K'
                replace hz : w.heap.size + 1 ≤ W8.heap.size := Nat.le_trans hz hb.size
                clear hb
                clear d0 x0 x1 x2 x3 y0
                go_wp2_with fail
                refine ⟨trivial, ?_⟩
                refine plan_still ?_
                simp only [pick, List.getElem?_toArray, List.getElem?_cons_succ, List.getElem?_cons_zero]
                repeat still_step
                refine wpStill_nil ?_
                refine plan_end (NoPanic.normal ?_)
                generalize W8 = W9 at *
                clear Hre G1
                obtain ⟨r_p, q_p, -⟩ := HT.out.rules
                have z_p : w.heap.size < W9.heap.size := (HT.out.in_ 0 rfl rfl).2
                go_wp2_with fail
                clear r_p q_p z_p
                go_roundw
                case rel =>
                  refine ⟨j + 1, ?_, ?_, ?_, ?_, ?_, ?_, ?_, ?_⟩
                  · go_num
                  · omega
                  · exact HN.out
                  · with_reducible exact HT.out
                  · with_reducible exact Hr.out
                  · with_reducible exact Hrl.out
                  · with_reducible exact Ha.out
                  · exact hz
                case measure => simp [intOf]; omega
          · have hN := badL_none (l := l) (fun i hi => Hbj.out i (by omega))
            have HN : Hid (∀ j l, j < k + 1 → ps[j]? = some l → badL l = none) := Lib.hid (fun i l2 hi h2 => by
              by_cases hik : i = k
              · subst hik; rw [HL.out] at h2; injection h2 with h2; rw [← h2]; exact hN
              · exact Hbk.out i l2 (by omega) h2)
            have i4 : ¬ (j : Int) < (l.length : Int) := by omega
            clear hN
            go_wp2_with fail
            clear r_p q_p z_p
            clear Hrl Ha
            go_roundw
            case rel =>
              refine ⟨k + 1, ?_, ?_, ?_, ?_, ?_, ?_⟩
              · go_num
              · omega
              · exact HN.out
              · with_reducible exact HT.out
              · with_reducible exact Hr.out
              · exact hz
            case measure => simp [intOf]; omega
      · have hE := verP_ok Hp.out (fun l hl => by obtain ⟨j, hj⟩ := List.getElem?_of_mem hl; exact Hbk.out j l (by have := (List.getElem?_eq_some_iff.1 hj).1; omega) hj)
        have HE := Lib.hid hE
        have i2 : ¬ (k : Int) < (ps.length : Int) := by omega
        clear hE
        go_wp2_with fail
        go_ret3
        rw [HE.out]
        exact ⟨rfl, HT.out.below⟩
  · have HE := Lib.hid (verP_bad hp)
    have hpn : (progF ps != 0) = true := by simpa using hp
    clear hp
    go_wp2_with fail
    refine (fault_any _ A c ps _ Hr.out).mono ?_
    rintro en W2 ⟨rfl, hb⟩
    clear r_p q_p z_p
    obtain ⟨T', K'⟩ := HT.out.call hb
    replace HT := Lib.hid T'
    replace Hr := Lib.hid (Hr.out.move (by show 0 < 1; omega) K')
    clear T' K'
    replace hz : w.heap.size + 1 ≤ W2.heap.size := Nat.le_trans hz hb.size
    clear hb
    obtain ⟨r_p, q_p, -⟩ := HT.out.rules
    have z_p : w.heap.size < W2.heap.size := (HT.out.in_ 0 rfl rfl).2
    go_wp2_with fail
    go_ret3
    rw [HE.out]
    exact ⟨rfl, HT.out.below⟩
end Go.Proofs.YtabcjdalifhpdaaDoor
