/- The walk of verify.Types. Condition: the table of operators is as the program's text lays it. -/
import Derived.Test.YtabcjdalifhpdaaDoorVerCheck
import Derived.Test.YtabcjdalifhpdaaDoorFlowN
import Derived.Test.YtabcjdalifhpdaaDoorCloneI
namespace Go.Proofs.YtabcjdalifhpdaaDoor
open Go.RowKit

theorem infoLI : (Tryd.prog.info? 55).map (fun i => (i.zero, i.size, i.bytes)) = some (some (.slice none 0 0), 1, 24) := by kernel_rfl
set_option maxRecDepth 100000 in
set_option maxHeartbeats 8000000 in
theorem types_any (S : Nat → Prop) (A : Option Addr) (c : Nat) (ps : List (List Ins)) (kd : Int) (w : World) (hu : UsesAt w) (hr : RdSl pgE w S (.slice A ps.length c) ps) :
    Calls Tryd.prog 26 #[.agg #[.slice A ps.length c], .int .i64 kd] w (TypesD w (typesP ps kd)) := by
  have Hu := Lib.hid hu
  clear hu
  obtain ⟨-, hc1, hc2, hc3⟩ := hr.lims
  have Hr := Lib.hid hr
  clear hr hc3
  have T0 : St w.heap.size w ((w.alloc (.cells #[.slice A ps.length c] 26))) [.blk w.heap.size #[.slice A ps.length c] 26] := ((St.start w (Nat.le_refl _)).new' #[.slice A ps.length c] 26 (w.heap.size) (by simp)).1
  have HT := Lib.hid T0
  have hz : w.heap.size + 1 ≤ (w.alloc (.cells #[.slice A ps.length c] 26)).heap.size := by simp
  clear T0
  replace Hr : Hid (RdSl pgE ((w.alloc (.cells #[.slice A ps.length c] 26))) (Fr 0 [.blk w.heap.size #[.slice A ps.length c] 26]) (.slice A ps.length c) ps) := Lib.hid (RdSl.pool (E := pgE) Hr.out (by show 0 < 1; omega) HT.out)
  go_enter Tryd.func26, Tryd.ntmps26
  go_upto_region 1 with fail
  generalize (w.alloc (.cells #[.slice A ps.length c] 26)) = W1 at *
  obtain ⟨r_p, q_p, -⟩ := HT.out.rules
  have z_p : w.heap.size < W1.heap.size := (HT.out.in_ 0 rfl rfl).2
  by_cases hp : progF ps = 0
  · have hpn : (progF ps != 0) = false := by simpa using hp
    have hpe : (progF ps == 0) = true := by simpa using hp
    have Hp := Lib.hid hp
    have Hok := Lib.hid (progF_fl hp)
    by_cases hkd : 0 ≤ kd ∧ kd < ps.length
    · obtain ⟨k, rfl⟩ := Int.eq_ofNat_of_zero_le hkd.1
      have hkl : k < ps.length := by omega
      obtain ⟨l, hl⟩ : ∃ l, ps[k]? = some l := ⟨ps[k], List.getElem?_eq_getElem hkl⟩
      have Hfl := Lib.hid (Hok.out.2.2 l (List.mem_of_getElem? hl))
      have Hfl1 := Hfl.out.one
      have Hfl6 := Hfl.out.few
      have HL := Lib.hid hl
      have HE := Lib.hid (typesP_ok hp hl)
      have i1 : (0 : Int) ≤ (k : Int) := by omega
      have i2 : (k : Int) < (ps.length : Int) := by omega
      have Hfe := Lib.hid (flowL_eights l)
      have Hfn := Lib.hid (flowL_len (l := l) (by intro h; rw [h] at Hfl1; exact absurd Hfl1 (by decide)))
      clear hl hp hkd
      have i3 : ¬ (k : Int) < 0 := by omega
      go_wp2_with fail
      refine (codeCheck_any _ A c ps _ (Hu.out.below HT.out.below) Hr.out).mono ?_
      rintro en W4 ⟨rfl, hb⟩
      clear r_p q_p z_p
      obtain ⟨T', K'⟩ := HT.out.call hb
      replace HT := Lib.hid T'
      replace Hr := Lib.hid (Hr.out.move (by show 0 < 1; omega) K')
      clear T' K'
      replace hz : w.heap.size + 1 ≤ W4.heap.size := Nat.le_trans hz hb.size
      clear hb
      obtain ⟨r_p, q_p, -⟩ := HT.out.rules
      have z_p : w.heap.size < W4.heap.size := (HT.out.in_ 0 rfl rfl).2
      obtain ⟨fb, fo, lb, lc, rfl, _, _, y0, hrl⟩ := Hr.out.at_s HL.out
      have Hrl := Lib.hid hrl
      clear hrl
      replace Hrl : Hid (RdSl insE W4 (Fr 0 [.blk w.heap.size #[.slice (some ⟨fb, fo, none⟩) ps.length c] 26]) (.slice lb l.length lc) l) := Hrl
      clear r_p q_p z_p
      obtain ⟨r_p, q_p, -⟩ := HT.out.rules
      have z_p : w.heap.size < W4.heap.size := (HT.out.in_ 0 rfl rfl).2
      go_wp2_with fail
      refine (flow_any _ lb lc l Hfl.out _ Hrl.out).mono ?_
      rintro en W5 ⟨Aa, ca, Ad, cd, rfl, hra, hrd, hb⟩
      clear r_p q_p z_p
      have Hfresh := Lib.hid (HT.out)
      have hzo : w.heap.size ≤ W4.heap.size := by omega
      obtain ⟨T', K'⟩ := HT.out.call hb
      replace HT := Lib.hid T'
      replace Hr := Lib.hid (Hr.out.move (by show 0 < 1; omega) K')
      replace Hrl := Lib.hid (Hrl.out.move (by decide) K')
      clear T' K'
      replace hz : w.heap.size + 1 ≤ W5.heap.size := Nat.le_trans hz hb.size
      clear hb
      have Ha : Hid (RdSl knE W5 (Fr w.heap.size [.blk w.heap.size #[.slice (some ⟨fb, fo, none⟩) ps.length c] 26]) (.slice Aa l.length ca) (padS (flowL l))) := Lib.hid (hra.fresh (by first | decide | (show 0 < 1; omega)) Hfresh.out hzo)
      clear hra
      have Hd : Hid (RdSl yE W5 (Fr w.heap.size [.blk w.heap.size #[.slice (some ⟨fb, fo, none⟩) ps.length c] 26]) (.slice Ad l.length cd) (knownS (flowL l))) := Lib.hid (hrd.fresh (by first | decide | (show 0 < 1; omega)) Hfresh.out hzo)
      clear hrd
      clear Hfresh hzo
      obtain ⟨r_p, q_p, -⟩ := HT.out.rules
      have z_p : w.heap.size < W5.heap.size := (HT.out.in_ 0 rfl rfl).2
      clear y0
      obtain ⟨T', K'⟩ := HT.out.nilRow w.heap.size 55 1
      replace HT := Lib.hid T'
      replace Hr := Lib.hid (Hr.out.move (by show 0 < 1; omega) K')
      replace Hrl := Lib.hid (Hrl.out.move (by decide) K')
      replace Ha := Lib.hid (Ha.out.move (by decide) K')
      replace Hd := Lib.hid (Hd.out.move (by decide) K')
      clear T' K'
      have HO : Hid (Held liE W5 (Fr w.heap.size [.row w.heap.size 55 1 (.slice none 0 0) 0 (cat []), .blk w.heap.size #[.slice (some ⟨fb, fo, none⟩) ps.length c] 26]) [] ((flowL l).take 0)) := Lib.hid Held.nil
      clear r_p q_p z_p
      obtain ⟨r_p, q_p, -⟩ := HT.out.rules
      have z_p : w.heap.size < W5.heap.size := (HT.out.in_ 1 rfl rfl).2
      go_wp2_with fail
      go_loopw [38, 10] (fun i vs wl6 => ∃ (j : Nat) (vo : Value) (css : List (List Value)), i = .int .i64 j ∧ vo = vs ∧ j ≤ l.length ∧ St w.heap.size w wl6 [.row w.heap.size 55 1 vo j (cat css), .blk w.heap.size #[.slice (some ⟨fb, fo, none⟩) ps.length c] 26] ∧ RdSl pgE wl6 (Fr 0 [.row w.heap.size 55 1 vo j (cat css), .blk w.heap.size #[.slice (some ⟨fb, fo, none⟩) ps.length c] 26]) (.slice (some ⟨fb, fo, none⟩) ps.length c) ps ∧ RdSl insE wl6 (Fr 0 [.row w.heap.size 55 1 vo j (cat css), .blk w.heap.size #[.slice (some ⟨fb, fo, none⟩) ps.length c] 26]) (.slice lb l.length lc) l ∧ RdSl knE wl6 (Fr w.heap.size [.row w.heap.size 55 1 vo j (cat css), .blk w.heap.size #[.slice (some ⟨fb, fo, none⟩) ps.length c] 26]) (.slice Aa l.length ca) (padS (flowL l)) ∧ RdSl yE wl6 (Fr w.heap.size [.row w.heap.size 55 1 vo j (cat css), .blk w.heap.size #[.slice (some ⟨fb, fo, none⟩) ps.length c] 26]) (.slice Ad l.length cd) (knownS (flowL l)) ∧ Held liE wl6 (Fr w.heap.size [.row w.heap.size 55 1 vo j (cat css), .blk w.heap.size #[.slice (some ⟨fb, fo, none⟩) ps.length c] 26]) css ((flowL l).take j) ∧ w.heap.size + 1 ≤ wl6.heap.size) (fun i _ _ => l.length - (intOf i).toNat)
      case atStart =>
        refine ⟨0, .slice none 0 0, [], ?_, ?_, ?_, ?_, ?_, ?_, ?_, ?_, ?_, ?_⟩
        · rfl
        · rfl
        · exact Nat.zero_le _
        · with_reducible exact HT.out
        · with_reducible exact Hr.out
        · with_reducible exact Hrl.out
        · with_reducible exact Ha.out
        · with_reducible exact Hd.out
        · with_reducible exact HO.out
        · exact hz
      case round =>
        generalize wr = wl6 at *
        clear HT Hr Hrl Ha Hd HO hz
        obtain ⟨j, vo, css, rfl, rfl, hj, ht, pHr, pHrl, pHa, pHd, pHO, hz⟩ := hrel
        have HT := Lib.hid ht
        have Hr : Hid (RdSl pgE wl6 (Fr 0 [.row w.heap.size 55 1 vo j (cat css), .blk w.heap.size #[.slice (some ⟨fb, fo, none⟩) ps.length c] 26]) (.slice (some ⟨fb, fo, none⟩) ps.length c) ps) := Lib.hid pHr
        have Hrl : Hid (RdSl insE wl6 (Fr 0 [.row w.heap.size 55 1 vo j (cat css), .blk w.heap.size #[.slice (some ⟨fb, fo, none⟩) ps.length c] 26]) (.slice lb l.length lc) l) := Lib.hid pHrl
        have Ha : Hid (RdSl knE wl6 (Fr w.heap.size [.row w.heap.size 55 1 vo j (cat css), .blk w.heap.size #[.slice (some ⟨fb, fo, none⟩) ps.length c] 26]) (.slice Aa l.length ca) (padS (flowL l))) := Lib.hid pHa
        have Hd : Hid (RdSl yE wl6 (Fr w.heap.size [.row w.heap.size 55 1 vo j (cat css), .blk w.heap.size #[.slice (some ⟨fb, fo, none⟩) ps.length c] 26]) (.slice Ad l.length cd) (knownS (flowL l))) := Lib.hid pHd
        have HO : Hid (Held liE wl6 (Fr w.heap.size [.row w.heap.size 55 1 vo j (cat css), .blk w.heap.size #[.slice (some ⟨fb, fo, none⟩) ps.length c] 26]) css ((flowL l).take j)) := Lib.hid pHO
        clear ht pHr pHrl pHa pHd pHO
        obtain ⟨Av, cv, rfl⟩ := own_form (HT.out.own 0 rfl)
        replace Hr : Hid (RdSl pgE wl6 (Fr 0 [.row w.heap.size 55 1 (.slice Av j cv) j (cat css), .blk w.heap.size #[.slice (some ⟨fb, fo, none⟩) ps.length c] 26]) (.slice (some ⟨fb, fo, none⟩) ps.length c) ps) := Hr
        replace Hrl : Hid (RdSl insE wl6 (Fr 0 [.row w.heap.size 55 1 (.slice Av j cv) j (cat css), .blk w.heap.size #[.slice (some ⟨fb, fo, none⟩) ps.length c] 26]) (.slice lb l.length lc) l) := Hrl
        replace Ha : Hid (RdSl knE wl6 (Fr w.heap.size [.row w.heap.size 55 1 (.slice Av j cv) j (cat css), .blk w.heap.size #[.slice (some ⟨fb, fo, none⟩) ps.length c] 26]) (.slice Aa l.length ca) (padS (flowL l))) := Ha
        replace Hd : Hid (RdSl yE wl6 (Fr w.heap.size [.row w.heap.size 55 1 (.slice Av j cv) j (cat css), .blk w.heap.size #[.slice (some ⟨fb, fo, none⟩) ps.length c] 26]) (.slice Ad l.length cd) (knownS (flowL l))) := Hd
        replace HO : Hid (Held liE wl6 (Fr w.heap.size [.row w.heap.size 55 1 (.slice Av j cv) j (cat css), .blk w.heap.size #[.slice (some ⟨fb, fo, none⟩) ps.length c] 26]) css ((flowL l).take j)) := HO
        by_cases hjt : j < l.length
        · obtain ⟨e, he⟩ : ∃ e, (flowL l)[j]? = some e := ⟨(flowL l)[j]'(by rw [Hfn.out]; exact hjt), List.getElem?_eq_getElem _⟩
          obtain ⟨db, dn, rfl, _, _, d0⟩ := Hd.out.at_y (knownS_at he)
          have HX := Lib.hid he
          have i4 : (j : Int) < (l.length : Int) := by omega
          have i5 : (0 : Int) ≤ (j : Int) := by omega
          rcases e with _ | ⟨e, es⟩
          · replace d0 : wl6.cell? ⟨db, dn + j, none⟩ = some (.bool false) := d0
            clear he
            go_wp2_with (at_builtin; go_loud (refine wpList_append_css rfl (.tmp 46) (.tmp 47) _ rfl (e := 55) (size := 1) (bytes := 24) Tryd.underlying56 infoLI rfl (by omega) HT.out 0 rfl rfl [Value.slice none 0 0] 55 rfl rfl (by simp [Value.oneCell']) (by unfold maxLen; omega) (by omega) HT.out.base ?next))
            case next =>
              intro A9 c9 wg T' K' hs3
              clear d0
              replace T' : St w.heap.size w wg [.row w.heap.size 55 1 (.slice A9 (j + 1) c9) (j + 1) (cat (css ++ [[Value.slice none 0 0]])), .blk w.heap.size #[.slice (some ⟨fb, fo, none⟩) ps.length c] 26] := T'
              replace K' : Keeps wl6 [.row w.heap.size 55 1 (.slice Av j cv) j (cat css), .blk w.heap.size #[.slice (some ⟨fb, fo, none⟩) ps.length c] 26] wg [.row w.heap.size 55 1 (.slice A9 (j + 1) c9) (j + 1) (cat (css ++ [[Value.slice none 0 0]])), .blk w.heap.size #[.slice (some ⟨fb, fo, none⟩) ps.length c] 26] := K'
              replace HT := Lib.hid T'
              replace Hr := Lib.hid (Hr.out.move (by show 0 < 1; omega) K')
              replace Hrl := Lib.hid (Hrl.out.move (by decide) K')
              replace Ha := Lib.hid (Ha.out.move (by decide) K')
              replace HO := Lib.hid (HO.out.move K')
              replace Hd := Lib.hid (Hd.out.move (by decide) K')
              replace hz : w.heap.size + 1 ≤ wg.heap.size := by omega
              clear T' K'
              have hnew : Held liE wg (Fr w.heap.size [.row w.heap.size 55 1 (.slice A9 (j + 1) c9) (j + 1) (cat (css ++ [[Value.slice none 0 0]])), .blk w.heap.size #[.slice (some ⟨fb, fo, none⟩) ps.length c] 26]) (css ++ [[Value.slice none 0 0]]) ((flowL l).take (j + 1)) := by
                rw [List.take_add_one, HX.out]
                exact HO.out.append (Held.single (E := liE) (cs := [Value.slice none 0 0]) (x := ([] : List Int)) rfl ⟨_, rfl, rdl_nili⟩)
              replace HO := Lib.hid hnew
              clear hnew
              obtain ⟨r_p, q_p, -⟩ := HT.out.rules
              have z_p : w.heap.size < wg.heap.size := (HT.out.in_ 1 rfl rfl).2
              go_wp2_with fail
              clear r_p q_p z_p
              go_roundw
              case rel =>
                refine ⟨j + 1, .slice A9 (j + 1) c9, css ++ [[Value.slice none 0 0]], ?_, ?_, ?_, ?_, ?_, ?_, ?_, ?_, ?_, ?_⟩
                · go_num
                · rfl
                · omega
                · with_reducible exact HT.out
                · with_reducible exact Hr.out
                · with_reducible exact Hrl.out
                · with_reducible exact Ha.out
                · with_reducible exact Hd.out
                · with_reducible exact HO.out
                · exact hz
              case measure => simp [intOf]; omega
          · replace d0 : wl6.cell? ⟨db, dn + j, none⟩ = some (.bool true) := d0
            have h8 : (e :: es).length = 8 := (Hfe.out _ (List.mem_of_getElem? he)).elim (fun h => by cases h) id
            have hpa := padS_at he
            generalize hE : e :: es = E8 at *
            obtain ⟨ab, ao, rfl, hsub⟩ := rd_ksub Ha.out hpa h8
            have G := fun W S (h : RdSl iE W S (.slice (some ⟨ab, ao + j * 8, none⟩) E8.length 8) E8) => cloneI_any S _ 8 E8 W h
            rw [h8] at G
            have G1 := Lib.hid G
            have Hsub := Lib.hid hsub
            have H8 := Lib.hid h8
            clear G hE h8 hpa he hsub
            go_wp2_with fail
            refine (G1.out _ _ Hsub.out).mono ?_
            rintro en W7 ⟨v9, rfl, hown, hb⟩
            obtain ⟨Af, cf, rfl⟩ := hown.form
            rw [H8.out] at hown
            rw [H8.out]
            have hrd := (OwnSl.flat (S' := fun _ => False) (fun _ _ _ _ h => h) hown).rd.keep (S' := fun b => (wl6).heap.size ≤ b) (by decide) (fun b _ h => ⟨h.elim (fun h => h.elim) id, rfl⟩)
            clear hown
            have Hfresh := Lib.hid (HT.out)
            have hzo : w.heap.size ≤ wl6.heap.size := by omega
            obtain ⟨T', K'⟩ := HT.out.call hb
            replace HT := Lib.hid T'
            replace Hr := Lib.hid (Hr.out.move (by show 0 < 1; omega) K')
            replace Hrl := Lib.hid (Hrl.out.move (by decide) K')
            replace HO := Lib.hid (HO.out.move K')
            replace Hd := Lib.hid (Hd.out.move (by decide) K')
            replace Ha := Lib.hid (Ha.out.move (by decide) K')
            replace Hsub := Lib.hid (Hsub.out.move (by decide) K')
            clear T' K'
            replace hz : w.heap.size + 1 ≤ W7.heap.size := Nat.le_trans hz hb.size
            clear hb
            have HF : Hid (RdSl iE W7 (Fr w.heap.size [.row w.heap.size 55 1 (.slice Av j cv) j (cat css), .blk w.heap.size #[.slice (some ⟨fb, fo, none⟩) ps.length c] 26]) (.slice Af 8 cf) E8) := Lib.hid (hrd.fresh (by first | decide | (show 0 < 1; omega)) Hfresh.out hzo)
            clear hrd
            clear Hfresh hzo
            obtain ⟨r_p, q_p, -⟩ := HT.out.rules
            have z_p : w.heap.size < W7.heap.size := (HT.out.in_ 1 rfl rfl).2
            clear G1 Hsub d0
            have d0 : True := trivial
            clear r_p q_p z_p
            obtain ⟨r_p, q_p, -⟩ := HT.out.rules
            have z_p : w.heap.size < W7.heap.size := (HT.out.in_ 1 rfl rfl).2
            go_wp2_with (at_builtin; go_loud (refine wpList_append_css rfl (.tmp 49) (.tmp 55) _ rfl (e := 55) (size := 1) (bytes := 24) Tryd.underlying56 infoLI rfl (by omega) HT.out 0 rfl rfl [Value.slice Af 8 cf] 55 rfl rfl (by simp [Value.oneCell']) (by unfold maxLen; omega) (by omega) HT.out.base ?next))
            case next =>
              intro A9 c9 wg T' K' hs3
              clear r_p q_p z_p
              clear d0
              replace T' : St w.heap.size w wg [.row w.heap.size 55 1 (.slice A9 (j + 1) c9) (j + 1) (cat (css ++ [[Value.slice Af 8 cf]])), .blk w.heap.size #[.slice (some ⟨fb, fo, none⟩) ps.length c] 26] := T'
              replace K' : Keeps W7 [.row w.heap.size 55 1 (.slice Av j cv) j (cat css), .blk w.heap.size #[.slice (some ⟨fb, fo, none⟩) ps.length c] 26] wg [.row w.heap.size 55 1 (.slice A9 (j + 1) c9) (j + 1) (cat (css ++ [[Value.slice Af 8 cf]])), .blk w.heap.size #[.slice (some ⟨fb, fo, none⟩) ps.length c] 26] := K'
              replace HT := Lib.hid T'
              replace Hr := Lib.hid (Hr.out.move (by show 0 < 1; omega) K')
              replace Hrl := Lib.hid (Hrl.out.move (by decide) K')
              replace HO := Lib.hid (HO.out.move K')
              replace Hd := Lib.hid (Hd.out.move (by decide) K')
              replace Ha := Lib.hid (Ha.out.move (by decide) K')
              replace HF := Lib.hid (HF.out.move (by decide) K')
              replace hz : w.heap.size + 1 ≤ wg.heap.size := by omega
              clear T' K'
              have hnew : Held liE wg (Fr w.heap.size [.row w.heap.size 55 1 (.slice A9 (j + 1) c9) (j + 1) (cat (css ++ [[Value.slice Af 8 cf]])), .blk w.heap.size #[.slice (some ⟨fb, fo, none⟩) ps.length c] 26]) (css ++ [[Value.slice Af 8 cf]]) ((flowL l).take (j + 1)) := by
                rw [List.take_add_one, HX.out]
                exact HO.out.append (Held.single (E := liE) (cs := [Value.slice Af 8 cf]) (x := E8) rfl ⟨_, rfl, HF.out⟩)
              replace HO := Lib.hid hnew
              clear hnew
              obtain ⟨r_p, q_p, -⟩ := HT.out.rules
              have z_p : w.heap.size < wg.heap.size := (HT.out.in_ 1 rfl rfl).2
              go_wp2_with fail
              clear HF
              clear r_p q_p z_p
              go_roundw
              case rel =>
                refine ⟨j + 1, .slice A9 (j + 1) c9, css ++ [[Value.slice Af 8 cf]], ?_, ?_, ?_, ?_, ?_, ?_, ?_, ?_, ?_, ?_⟩
                · go_num
                · rfl
                · omega
                · with_reducible exact HT.out
                · with_reducible exact Hr.out
                · with_reducible exact Hrl.out
                · with_reducible exact Ha.out
                · with_reducible exact Hd.out
                · with_reducible exact HO.out
                · exact hz
              case measure => simp [intOf]; omega
        · have hjj : j = l.length := by omega
          have i4 : ¬ (j : Int) < (l.length : Int) := by omega
          go_wp2_with fail
          go_ret2
          unfold TypesD
          rw [HE.out]
          subst hjj
          have htk : (flowL l).take l.length = flowL l := List.take_of_length_le (by rw [Hfn.out]; exact Nat.le_refl _)
          have hO := HO.out
          rw [htk] at hO
          have hA := HT.out.rdRow (E := liE) (n := w.heap.size) 0 rfl rfl Hfn.out.symm hO (by rw [Hfn.out]; show l.length * 24 ≤ _; omega) (Nat.le_refl _) (by show 0 < 1; omega)
          exact ⟨Av, cv, by show _ = Ending.returned (.tuple #[.slice Av (flowL l).length cv, .int .i64 0]); rw [Hfn.out]; rfl, by rw [Hfn.out]; exact hA, HT.out.below⟩
    · have HE := Lib.hid (typesP_none hp (by omega : ¬ (0 ≤ kd ∧ kd < ps.length)))
      clear hp
      go_wp2_with fail
      refine (codeCheck_any _ A c ps _ (Hu.out.below HT.out.below) Hr.out).mono ?_
      rintro en W3 ⟨rfl, hb⟩
      clear r_p q_p z_p
      obtain ⟨T', K'⟩ := HT.out.call hb
      replace HT := Lib.hid T'
      replace Hr := Lib.hid (Hr.out.move (by show 0 < 1; omega) K')
      clear T' K'
      replace hz : w.heap.size + 1 ≤ W3.heap.size := Nat.le_trans hz hb.size
      clear hb
      obtain ⟨r_p, q_p, -⟩ := HT.out.rules
      have z_p : w.heap.size < W3.heap.size := (HT.out.in_ 0 rfl rfl).2
      by_cases hk0 : kd < 0
      · clear hkd
        go_wp2_with fail
        go_ret2
        unfold TypesD
        rw [HE.out]
        exact ⟨none, 0, rfl, rdl_nil, HT.out.below⟩
      · have hk1 : (ps.length : Int) ≤ kd := by omega
        have hk2 : ¬ kd < 0 := hk0
        have hk3 : decide (kd < 0) = false := by simp; omega
        clear hkd
        go_wp2_with fail
        go_ret2
        unfold TypesD
        rw [HE.out]
        exact ⟨none, 0, rfl, rdl_nil, HT.out.below⟩
  · have HE := Lib.hid (typesP_bad (kd := kd) hp)
    have hpn : (progF ps != 0) = true := by simpa using hp
    have hpe : (progF ps == 0) = false := by simpa using hp
    clear hp
    go_wp2_with fail
    refine (codeCheck_any _ A c ps _ (Hu.out.below HT.out.below) Hr.out).mono ?_
    rintro en W2 ⟨rfl, hb⟩
    clear r_p q_p z_p
    obtain ⟨T', K'⟩ := HT.out.call hb
    replace HT := Lib.hid T'
    replace Hr := Lib.hid (Hr.out.move (by show 0 < 1; omega) K')
    clear T' K'
    replace hz : w.heap.size + 1 ≤ W2.heap.size := Nat.le_trans hz hb.size
    clear hb
    obtain ⟨r_p, q_p, -⟩ := HT.out.rules
    have z_p : w.heap.size < W2.heap.size := (HT.out.in_ 0 rfl rfl).2
    go_wp2_with fail
    go_ret2
    unfold TypesD
    rw [HE.out]
    exact ⟨none, 0, rfl, rdl_nil, HT.out.below⟩
end Go.Proofs.YtabcjdalifhpdaaDoor
