/- THE STATEMENT 'TypesFlow': for every input the call returns true, and each argument reads behind it as it did: proved out of the walks. Condition: the row's own: the table of operators reads as the program's text lays it, which the card ties. -/
import Derived.Test.YtabcjdalifhpdaaDoorKProg
import Derived.Test.YtabcjdalifhpdaaDoorFlowQ
import Derived.Test.YtabcjdalifhpdaaDoorTypes
import Derived.Test.YtabcjdalifhpdaaDoorFacts
import Derived.Test.YtabcjdalifhpdaaDoorLaid
import Derived.Test.YtabcjdalifhpdaaDoorTie
import Derived.Test.YtabcjdalifhpdaaDoorCards
import Derived.SevenTiedAt
set_option maxRecDepth 100000
namespace Go.Proofs.YtabcjdalifhpdaaDoor.lawTypesFlow
open Go.ChangeShapes Go.WideShapes Go.ChangeAt Go.RowKit
set_option linter.unusedVariables false

set_option maxRecDepth 100000 in
set_option maxHeartbeats 16000000 in
theorem walk (w : World) (l : List Rw) (A : Option Addr) (c : Nat) (hr : RdSl rwE w (fun _ => True) (.slice A l.length c) l) (hu : UsesAt w) :
    Calls Tryd.prog 7 #[.slice A l.length c] w fun e w' => e = .returned (.bool true) ∧ Below w.heap.size w w' := by
  have Hu := Lib.hid hu
  have hf := programK_ok (l := l) (most := 14) (by omega)
  have hv := programK_ver (l := l) (most := 14) (by omega)
  obtain ⟨ps, hps⟩ : ∃ ps, programK l 14 = ps := ⟨_, rfl⟩
  have h3 := programK_len l 14
  have GP := fun W S A c => programK_any S A c l 14 W
  rw [hps] at hf hv h3 GP
  have hT : ∀ (k : Nat) (c : List Ins), ps[k]? = some c → typesP ps (k : Int) = (flowL c, 0) := fun k c hk => typesP_ok hf hk
  have hT3 : typesP ps (3 : Int) = ([], 6) := typesP_none hf (by omega)
  have hF : ∀ c ∈ ps, FlCode c := (progF_fl hf).2.2
  have HT0 := Lib.hid hT
  have HT3 := Lib.hid hT3
  have HF := Lib.hid hF
  have HV := Lib.hid hv
  have GG := Lib.hid GP
  have Hr := Lib.hid hr
  clear hu hr hf hv GP hps hT hT3 hF
  have T0 : St w.heap.size w w [] := St.start w (Nat.le_refl _)
  have HT := Lib.hid T0
  have hz : w.heap.size ≤ w.heap.size := by simp
  clear T0
  replace Hr : Hid (RdSl rwE w (Fr 0 []) (.slice A l.length c) l) := Lib.hid (Hr.out.pool (by decide) HT.out)
  go_enter Tryd.func7, Tryd.ntmps7
  go_wp2_with fail
  refine (GG.out _ _ _ _ (by omega) (Hu.out.below HT.out.below) Hr.out).mono ?_
  rintro en W1 ⟨B1, d1, rfl, hrp, hb⟩
  have Hfresh := Lib.hid (HT.out)
  have hzo : w.heap.size ≤ w.heap.size := by omega
  obtain ⟨T', K'⟩ := HT.out.call hb
  replace HT := Lib.hid T'
  replace Hr := Lib.hid (Hr.out.move (by decide) K')
  clear T' K'
  replace hz : w.heap.size ≤ W1.heap.size := Nat.le_trans hz hb.size
  clear hb
  have Hp : Hid (RdSl pgE W1 (Fr w.heap.size []) (.slice B1 3 d1) ps) := Lib.hid (hrp.fresh (by first | decide | (show 0 < 1; omega)) Hfresh.out hzo)
  clear hrp
  clear Hfresh hzo
  clear Hr
  clear GG
  go_upto_region 2 with fail
  obtain ⟨T', K'⟩ := HT.out.new' #[.slice B1 3 d1] 26 W1.heap.size (by first | (simp; done) | rfl)
  replace HT := Lib.hid T'
  replace Hp := Lib.hid (Hp.out.move (by decide) K')
  clear T' K'
  replace hz : w.heap.size ≤ ((W1.alloc (.cells #[.slice B1 3 d1] 26))).heap.size := Nat.le_trans hz (by simp)
  generalize (W1.alloc (.cells #[.slice B1 3 d1] 26)) = W2 at *
  obtain ⟨r_p, q_p, -⟩ := HT.out.rules
  have z_p : W1.heap.size < W2.heap.size := (HT.out.in_ 0 rfl rfl).2
  go_wp2_with fail
  go_loopw [23] (fun i wl3 => ∃ k : Nat, i = .int .i64 k ∧ k ≤ 3 ∧ St w.heap.size w wl3 [.blk W1.heap.size #[.slice B1 3 d1] 26] ∧ RdSl pgE wl3 (Fr w.heap.size [.blk W1.heap.size #[.slice B1 3 d1] 26]) (.slice B1 3 d1) ps ∧ w.heap.size ≤ wl3.heap.size) (fun i _ => 3 - (intOf i).toNat)
  case atStart =>
    refine ⟨0, ?_, ?_, ?_, ?_, ?_⟩
    · rfl
    · omega
    · with_reducible exact HT.out
    · with_reducible exact Hp.out
    · exact hz
  case round =>
    generalize wr = wl3 at *
    clear HT Hp hz
    obtain ⟨k, rfl, hk, ht, pHp, hz⟩ := hrel
    have HT := Lib.hid ht
    have Hp : Hid (RdSl pgE wl3 (Fr w.heap.size [.blk W1.heap.size #[.slice B1 3 d1] 26]) (.slice B1 3 d1) ps) := Lib.hid pHp
    clear ht pHp
    obtain ⟨r_p, q_p, -⟩ := HT.out.rules
    have z_p : W1.heap.size < wl3.heap.size := (HT.out.in_ 0 rfl rfl).2
    by_cases hk3 : k < 3
    · obtain ⟨c, hc⟩ : ∃ c, ps[k]? = some c := ⟨ps[k], List.getElem?_eq_getElem (by omega)⟩
      obtain ⟨fb, fo, cb, cc, rfl, _, _, y0, hrc⟩ := Hp.out.at_s hc
      have Hfl := Lib.hid (HF.out c (List.mem_of_getElem? hc))
      have hone := Hfl.out.one
      have hfew := Hfl.out.few
      have hty := HT0.out k c hc
      have Hc := Lib.hid hrc
      have HTY := Lib.hid hty
      have hne : c ≠ [] := fun e => by rw [e] at hone; exact absurd hone (by decide)
      have Hfn := Lib.hid (flowL_len hne)
      obtain ⟨k0, hk0, hw0⟩ := flow_first c
      have h80 := hw0.1
      have HK0 := Lib.hid hk0
      have j1 : (k : Int) < 3 := by omega
      have j2 : (0 : Int) ≤ (k : Int) := by omega
      clear hc hrc hty hne hk0 hw0
      replace Hc : Hid (RdSl insE wl3 (Fr w.heap.size [.blk W1.heap.size #[.slice (some ⟨fb, fo, none⟩) 3 d1] 26]) (.slice cb c.length cc) c) := Hc
      clear r_p q_p z_p
      obtain ⟨r_p, q_p, -⟩ := HT.out.rules
      have z_p : W1.heap.size < wl3.heap.size := (HT.out.in_ 0 rfl rfl).2
      go_wp2_with fail
      have GD := types_any _ _ d1 ps k wl3 (Hu.out.below HT.out.below) (by rw [h3]; exact Hp.out)
      unfold TypesD at GD
      rw [HTY.out, h3] at GD
      dsimp only at GD
      rw [Hfn.out] at GD
      have HGD := Lib.hid GD
      clear GD
      refine (HGD.out).mono ?_
      rintro en W6 ⟨A5, d5, rfl, hrt, hb⟩
      clear r_p q_p z_p
      have Hfresh := Lib.hid (HT.out)
      have hzo : w.heap.size ≤ wl3.heap.size := by omega
      obtain ⟨T', K'⟩ := HT.out.call hb
      replace HT := Lib.hid T'
      replace Hp := Lib.hid (Hp.out.move (by decide) K')
      replace Hc := Lib.hid (Hc.out.move (by decide) K')
      clear T' K'
      replace hz : w.heap.size ≤ W6.heap.size := Nat.le_trans hz hb.size
      clear hb
      have Ht : Hid (RdSl liE W6 (Fr w.heap.size [.blk W1.heap.size #[.slice (some ⟨fb, fo, none⟩) 3 d1] 26]) (.slice A5 c.length d5) (flowL c)) := Lib.hid (hrt.fresh (by first | decide | (show 0 < 1; omega)) Hfresh.out hzo)
      clear hrt
      clear Hfresh hzo
      obtain ⟨r_p, q_p, -⟩ := HT.out.rules
      have z_p : W1.heap.size < W6.heap.size := (HT.out.in_ 0 rfl rfl).2
      clear HGD y0
      obtain ⟨tb, tn, t0, tc, rfl, _, _, y0, -⟩ := Ht.out.at_s HK0.out
      rw [h80] at y0
      try rw [Nat.add_zero] at y0
      have j3 : (0 : Int) < (c.length : Int) := by omega
      have j4 : (0 : Nat) < c.length := by omega
      have j5 : ((c.length : Int) != (c.length : Int)) = false := by simp
      replace Ht : Hid (RdSl liE W6 (Fr w.heap.size [.blk W1.heap.size #[.slice (some ⟨fb, fo, none⟩) 3 d1] 26]) (.slice (some ⟨tb, tn, none⟩) c.length d5) (flowL c)) := Ht
      go_wp2_with fail
      clear y0
      go_loopw [52] (fun i wl7 => ∃ m : Nat, i = .int .i64 m ∧ m ≤ c.length ∧ St w.heap.size w wl7 [.blk W1.heap.size #[.slice (some ⟨fb, fo, none⟩) 3 d1] 26] ∧ RdSl pgE wl7 (Fr w.heap.size [.blk W1.heap.size #[.slice (some ⟨fb, fo, none⟩) 3 d1] 26]) (.slice (some ⟨fb, fo, none⟩) 3 d1) ps ∧ RdSl insE wl7 (Fr w.heap.size [.blk W1.heap.size #[.slice (some ⟨fb, fo, none⟩) 3 d1] 26]) (.slice cb c.length cc) c ∧ RdSl liE wl7 (Fr w.heap.size [.blk W1.heap.size #[.slice (some ⟨fb, fo, none⟩) 3 d1] 26]) (.slice (some ⟨tb, tn, none⟩) c.length d5) (flowL c) ∧ w.heap.size ≤ wl7.heap.size) (fun i _ => c.length - (intOf i).toNat)
      case atStart =>
        refine ⟨0, ?_, ?_, ?_, ?_, ?_, ?_, ?_⟩
        · rfl
        · omega
        · with_reducible exact HT.out
        · with_reducible exact Hp.out
        · with_reducible exact Hc.out
        · with_reducible exact Ht.out
        · exact hz
      case round =>
        generalize wr = wl7 at *
        clear HT Hp Hc Ht hz
        obtain ⟨m, rfl, hm, ht, pHp, pHc, pHt, hz⟩ := hrel
        have HT := Lib.hid ht
        have Hp : Hid (RdSl pgE wl7 (Fr w.heap.size [.blk W1.heap.size #[.slice (some ⟨fb, fo, none⟩) 3 d1] 26]) (.slice (some ⟨fb, fo, none⟩) 3 d1) ps) := Lib.hid pHp
        have Hc : Hid (RdSl insE wl7 (Fr w.heap.size [.blk W1.heap.size #[.slice (some ⟨fb, fo, none⟩) 3 d1] 26]) (.slice cb c.length cc) c) := Lib.hid pHc
        have Ht : Hid (RdSl liE wl7 (Fr w.heap.size [.blk W1.heap.size #[.slice (some ⟨fb, fo, none⟩) 3 d1] 26]) (.slice (some ⟨tb, tn, none⟩) c.length d5) (flowL c)) := Lib.hid pHt
        clear ht pHp pHc pHt
        obtain ⟨r_p, q_p, -⟩ := HT.out.rules
        have z_p : W1.heap.size < wl7.heap.size := (HT.out.in_ 0 rfl rfl).2
        by_cases hmc : m < c.length
        · obtain ⟨x, hx⟩ : ∃ x, c[m]? = some x := ⟨c[m], List.getElem?_eq_getElem hmc⟩
          obtain ⟨k1, hk1⟩ : ∃ q, (flowL c)[m]? = some q := ⟨(flowL c)[m]'(by rw [Hfn.out]; exact hmc), List.getElem?_eq_getElem _⟩
          obtain ⟨xb, xo, rfl, _, _, y0, y1, y2, y3⟩ := Hc.out.at_n hx
          have HX := Lib.hid hx
          have HK1 := Lib.hid hk1
          have j6 : (m : Int) < (c.length : Int) := by omega
          have j7 : (0 : Int) ≤ (m : Int) := by omega
          clear hx hk1
          replace Hc : Hid (RdSl insE wl7 (Fr w.heap.size [.blk W1.heap.size #[.slice (some ⟨fb, fo, none⟩) 3 d1] 26]) (.slice (some ⟨xb, xo, none⟩) c.length cc) c) := Hc
          go_upto_region 11 with fail
          obtain ⟨T', K'⟩ := HT.out.new' #[.int .i64 x.op, .int .i64 x.a, .int .i64 x.b, .int .i64 x.n] 42 wl7.heap.size (by first | (simp; done) | rfl)
          replace HT := Lib.hid T'
          replace Hp := Lib.hid (Hp.out.move (by decide) K')
          replace Ht := Lib.hid (Ht.out.move (by decide) K')
          replace Hc := Lib.hid (Hc.out.move (by decide) K')
          clear T' K'
          replace hz : w.heap.size ≤ ((wl7.alloc (.cells #[.int .i64 x.op, .int .i64 x.a, .int .i64 x.b, .int .i64 x.n] 42))).heap.size := Nat.le_trans hz (by simp)
          clear r_p q_p z_p
          generalize (wl7.alloc (.cells #[.int .i64 x.op, .int .i64 x.a, .int .i64 x.b, .int .i64 x.n] 42)) = W8 at *
          clear y0 y1 y2 y3
          obtain ⟨tb9, tn9, t0, tc, e9, _, _, y0, hrk⟩ := Ht.out.at_s HK1.out
          injection e9 with e9
          injection e9 with e1 e2
          subst e1 e2
          have Hk := Lib.hid hrk
          clear hrk
          replace Hk : Hid (RdSl iE W8 (Fr w.heap.size [.blk wl7.heap.size #[.int .i64 x.op, .int .i64 x.a, .int .i64 x.b, .int .i64 x.n] 42, .blk W1.heap.size #[.slice (some ⟨fb, fo, none⟩) 3 d1] 26]) (.slice t0 k1.length tc) k1) := Hk
          obtain ⟨r_x, q_x, r_p, q_p, -⟩ := HT.out.rules
          have z_x : wl7.heap.size < W8.heap.size := (HT.out.in_ 0 rfl rfl).2
          have z_p : W1.heap.size < W8.heap.size := (HT.out.in_ 1 rfl rfl).2
          by_cases hke : k1 = []
          · subst hke
            dsimp only [List.length] at y0
            go_wp2_with fail
            clear y0
            obtain ⟨T', K'⟩ := HT.out.drop 0
            simp only [List.eraseIdx_cons_zero] at T' K'
            replace HT := Lib.hid T'
            replace Hp := Lib.hid (Hp.out.move (by decide) K')
            replace Ht := Lib.hid (Ht.out.move (by decide) K')
            replace Hc := Lib.hid (Hc.out.move (by decide) K')
            replace Hk := Lib.hid (Hk.out.move (by decide) K')
            clear T' K'
            clear Hk
            clear r_x q_x r_p q_p z_x z_p
            go_roundw
            case rel =>
              refine ⟨m + 1, ?_, ?_, ?_, ?_, ?_, ?_, ?_⟩
              · go_num
              · omega
              · with_reducible exact HT.out
              · with_reducible exact Hp.out
              · with_reducible exact Hc.out
              · with_reducible exact Ht.out
              · exact hz
            case measure => simp [intOf]; omega
          · have hl8 : k1.length = 8 := (flowL_eights c k1 (List.mem_of_getElem? HK1.out)).resolve_left hke
            rw [hl8] at y0 Hk
            replace Hk : Hid (RdSl iE W8 (Fr w.heap.size [.blk wl7.heap.size #[.int .i64 x.op, .int .i64 x.a, .int .i64 x.b, .int .i64 x.n] 42, .blk W1.heap.size #[.slice (some ⟨fb, fo, none⟩) 3 d1] 26]) (.slice t0 8 tc) k1) := Hk
            by_cases h5 : x.op = 5
            · have e5 : (x.op != 5) = false := by simp [h5]
              have hway : ∀ t ∈ [(m : Int) + 1, (m : Int) + x.n], ∃ q : Nat, t = q ∧ q < c.length ∧ ∃ k2, (flowL c)[q]? = some k2 ∧ k2.length = 8 ∧ ∀ r : Nat, r < 8 → ∃ a b, k1[r]? = some a ∧ k2[r]? = some b ∧ joinN a b = b := by
                intro t ht
                have hw : waysP m x = [(m : Int) + 1, (m : Int) + x.n] := by unfold waysP; rw [if_neg (by omega), if_neg (by omega), if_pos h5]
                have hin := (Hfl.out.ins m x HX.out).ways t (by rw [hw]; exact ht)
                obtain ⟨q, rfl⟩ := Int.eq_ofNat_of_zero_le hin.1
                obtain ⟨k2, h21, h22, h23⟩ := flow_way HK1.out hke HX.out (by rw [hw]; exact ht) (by omega)
                have hla : laterP k1 x = k1 := by unfold laterP; (repeat rw [if_neg (by omega)])
                rw [hla] at h23
                refine ⟨q, rfl, by omega, k2, h21, h22, fun r hr => ?_⟩
                have a1 : k1[r]? = some k1[r] := List.getElem?_eq_getElem (by omega)
                have a2 : k2[r]? = some k2[r] := List.getElem?_eq_getElem (by omega)
                refine ⟨_, _, a1, a2, ?_⟩
                have := congrArg (fun l => l[r]?) h23
                simp only [List.getElem?_zipWith, a1, a2, Option.some.injEq] at this
                rw [join_comm]
                exact this
              have hjmp := (Hfl.out.ins m x HX.out).jump (.inl h5)
              have HW := Lib.hid hway
              clear hway h5 hke
              go_wp2_with fail
              clear y0
              go_loopw [68] (fun i wl9 => ∃ r : Nat, i = .int .i64 r ∧ r ≤ 8 ∧ St w.heap.size w wl9 [.blk wl7.heap.size #[.int .i64 x.op, .int .i64 x.a, .int .i64 x.b, .int .i64 x.n] 42, .blk W1.heap.size #[.slice (some ⟨fb, fo, none⟩) 3 d1] 26] ∧ RdSl pgE wl9 (Fr w.heap.size [.blk wl7.heap.size #[.int .i64 x.op, .int .i64 x.a, .int .i64 x.b, .int .i64 x.n] 42, .blk W1.heap.size #[.slice (some ⟨fb, fo, none⟩) 3 d1] 26]) (.slice (some ⟨fb, fo, none⟩) 3 d1) ps ∧ RdSl liE wl9 (Fr w.heap.size [.blk wl7.heap.size #[.int .i64 x.op, .int .i64 x.a, .int .i64 x.b, .int .i64 x.n] 42, .blk W1.heap.size #[.slice (some ⟨fb, fo, none⟩) 3 d1] 26]) (.slice (some ⟨tb, tn, none⟩) c.length d5) (flowL c) ∧ RdSl insE wl9 (Fr w.heap.size [.blk wl7.heap.size #[.int .i64 x.op, .int .i64 x.a, .int .i64 x.b, .int .i64 x.n] 42, .blk W1.heap.size #[.slice (some ⟨fb, fo, none⟩) 3 d1] 26]) (.slice (some ⟨xb, xo, none⟩) c.length cc) c ∧ RdSl iE wl9 (Fr w.heap.size [.blk wl7.heap.size #[.int .i64 x.op, .int .i64 x.a, .int .i64 x.b, .int .i64 x.n] 42, .blk W1.heap.size #[.slice (some ⟨fb, fo, none⟩) 3 d1] 26]) (.slice t0 8 tc) k1 ∧ w.heap.size ≤ wl9.heap.size) (fun i _ => 8 - (intOf i).toNat)
              case atStart =>
                refine ⟨0, ?_, ?_, ?_, ?_, ?_, ?_, ?_, ?_⟩
                · rfl
                · omega
                · with_reducible exact HT.out
                · with_reducible exact Hp.out
                · with_reducible exact Ht.out
                · with_reducible exact Hc.out
                · with_reducible exact Hk.out
                · exact hz
              case round =>
                generalize wr = wl9 at *
                clear HT Hp Ht Hc Hk hz
                obtain ⟨r, rfl, hr8, ht, pHp, pHt, pHc, pHk, hz⟩ := hrel
                have HT := Lib.hid ht
                have Hp : Hid (RdSl pgE wl9 (Fr w.heap.size [.blk wl7.heap.size #[.int .i64 x.op, .int .i64 x.a, .int .i64 x.b, .int .i64 x.n] 42, .blk W1.heap.size #[.slice (some ⟨fb, fo, none⟩) 3 d1] 26]) (.slice (some ⟨fb, fo, none⟩) 3 d1) ps) := Lib.hid pHp
                have Ht : Hid (RdSl liE wl9 (Fr w.heap.size [.blk wl7.heap.size #[.int .i64 x.op, .int .i64 x.a, .int .i64 x.b, .int .i64 x.n] 42, .blk W1.heap.size #[.slice (some ⟨fb, fo, none⟩) 3 d1] 26]) (.slice (some ⟨tb, tn, none⟩) c.length d5) (flowL c)) := Lib.hid pHt
                have Hc : Hid (RdSl insE wl9 (Fr w.heap.size [.blk wl7.heap.size #[.int .i64 x.op, .int .i64 x.a, .int .i64 x.b, .int .i64 x.n] 42, .blk W1.heap.size #[.slice (some ⟨fb, fo, none⟩) 3 d1] 26]) (.slice (some ⟨xb, xo, none⟩) c.length cc) c) := Lib.hid pHc
                have Hk : Hid (RdSl iE wl9 (Fr w.heap.size [.blk wl7.heap.size #[.int .i64 x.op, .int .i64 x.a, .int .i64 x.b, .int .i64 x.n] 42, .blk W1.heap.size #[.slice (some ⟨fb, fo, none⟩) 3 d1] 26]) (.slice t0 8 tc) k1) := Lib.hid pHk
                clear ht pHp pHt pHc pHk
                obtain ⟨r_x, q_x, r_p, q_p, -⟩ := HT.out.rules
                have z_x : wl7.heap.size < wl9.heap.size := (HT.out.in_ 0 rfl rfl).2
                have z_p : W1.heap.size < wl9.heap.size := (HT.out.in_ 1 rfl rfl).2
                by_cases hr9 : r < 8
                · have j8 : (r : Int) < 8 := by omega
                  have j9 : (0 : Int) ≤ (r : Int) := by omega
                  go_upto_region 16 with fail
                  obtain ⟨T', K'⟩ := HT.out.new' #[.int .i64 ((m : Int) + 1), .int .i64 ((m : Int) + x.n)] 3 wl9.heap.size (by first | (simp; done) | rfl)
                  replace HT := Lib.hid T'
                  replace Hp := Lib.hid (Hp.out.move (by decide) K')
                  replace Ht := Lib.hid (Ht.out.move (by decide) K')
                  replace Hc := Lib.hid (Hc.out.move (by decide) K')
                  replace Hk := Lib.hid (Hk.out.move (by decide) K')
                  clear T' K'
                  replace hz : w.heap.size ≤ ((wl9.alloc (.cells #[.int .i64 ((m : Int) + 1), .int .i64 ((m : Int) + x.n)] 3))).heap.size := Nat.le_trans hz (by simp)
                  clear r_x q_x r_p q_p z_x z_p
                  generalize (wl9.alloc (.cells #[.int .i64 ((m : Int) + 1), .int .i64 ((m : Int) + x.n)] 3)) = W10 at *
                  obtain ⟨r_ws, q_ws, r_x, q_x, r_p, q_p, -⟩ := HT.out.rules
                  have z_ws : wl9.heap.size < W10.heap.size := (HT.out.in_ 0 rfl rfl).2
                  have z_x : wl7.heap.size < W10.heap.size := (HT.out.in_ 1 rfl rfl).2
                  have z_p : W1.heap.size < W10.heap.size := (HT.out.in_ 2 rfl rfl).2
                  go_wp2_with fail
                  go_loopw [79] (fun i wl11 => ∃ q : Nat, i = .int .i64 q ∧ q ≤ 2 ∧ St w.heap.size w wl11 [.blk wl9.heap.size #[.int .i64 ((m : Int) + 1), .int .i64 ((m : Int) + x.n)] 3, .blk wl7.heap.size #[.int .i64 x.op, .int .i64 x.a, .int .i64 x.b, .int .i64 x.n] 42, .blk W1.heap.size #[.slice (some ⟨fb, fo, none⟩) 3 d1] 26] ∧ RdSl pgE wl11 (Fr w.heap.size [.blk wl9.heap.size #[.int .i64 ((m : Int) + 1), .int .i64 ((m : Int) + x.n)] 3, .blk wl7.heap.size #[.int .i64 x.op, .int .i64 x.a, .int .i64 x.b, .int .i64 x.n] 42, .blk W1.heap.size #[.slice (some ⟨fb, fo, none⟩) 3 d1] 26]) (.slice (some ⟨fb, fo, none⟩) 3 d1) ps ∧ RdSl liE wl11 (Fr w.heap.size [.blk wl9.heap.size #[.int .i64 ((m : Int) + 1), .int .i64 ((m : Int) + x.n)] 3, .blk wl7.heap.size #[.int .i64 x.op, .int .i64 x.a, .int .i64 x.b, .int .i64 x.n] 42, .blk W1.heap.size #[.slice (some ⟨fb, fo, none⟩) 3 d1] 26]) (.slice (some ⟨tb, tn, none⟩) c.length d5) (flowL c) ∧ RdSl insE wl11 (Fr w.heap.size [.blk wl9.heap.size #[.int .i64 ((m : Int) + 1), .int .i64 ((m : Int) + x.n)] 3, .blk wl7.heap.size #[.int .i64 x.op, .int .i64 x.a, .int .i64 x.b, .int .i64 x.n] 42, .blk W1.heap.size #[.slice (some ⟨fb, fo, none⟩) 3 d1] 26]) (.slice (some ⟨xb, xo, none⟩) c.length cc) c ∧ RdSl iE wl11 (Fr w.heap.size [.blk wl9.heap.size #[.int .i64 ((m : Int) + 1), .int .i64 ((m : Int) + x.n)] 3, .blk wl7.heap.size #[.int .i64 x.op, .int .i64 x.a, .int .i64 x.b, .int .i64 x.n] 42, .blk W1.heap.size #[.slice (some ⟨fb, fo, none⟩) 3 d1] 26]) (.slice t0 8 tc) k1 ∧ w.heap.size ≤ wl11.heap.size) (fun i _ => 2 - (intOf i).toNat)
                  case atStart =>
                    refine ⟨0, ?_, ?_, ?_, ?_, ?_, ?_, ?_, ?_⟩
                    · rfl
                    · omega
                    · with_reducible exact HT.out
                    · with_reducible exact Hp.out
                    · with_reducible exact Ht.out
                    · with_reducible exact Hc.out
                    · with_reducible exact Hk.out
                    · exact hz
                  case round =>
                    generalize wr = wl11 at *
                    clear HT Hp Ht Hc Hk hz
                    obtain ⟨q, rfl, hq2, ht, pHp, pHt, pHc, pHk, hz⟩ := hrel
                    have HT := Lib.hid ht
                    have Hp : Hid (RdSl pgE wl11 (Fr w.heap.size [.blk wl9.heap.size #[.int .i64 ((m : Int) + 1), .int .i64 ((m : Int) + x.n)] 3, .blk wl7.heap.size #[.int .i64 x.op, .int .i64 x.a, .int .i64 x.b, .int .i64 x.n] 42, .blk W1.heap.size #[.slice (some ⟨fb, fo, none⟩) 3 d1] 26]) (.slice (some ⟨fb, fo, none⟩) 3 d1) ps) := Lib.hid pHp
                    have Ht : Hid (RdSl liE wl11 (Fr w.heap.size [.blk wl9.heap.size #[.int .i64 ((m : Int) + 1), .int .i64 ((m : Int) + x.n)] 3, .blk wl7.heap.size #[.int .i64 x.op, .int .i64 x.a, .int .i64 x.b, .int .i64 x.n] 42, .blk W1.heap.size #[.slice (some ⟨fb, fo, none⟩) 3 d1] 26]) (.slice (some ⟨tb, tn, none⟩) c.length d5) (flowL c)) := Lib.hid pHt
                    have Hc : Hid (RdSl insE wl11 (Fr w.heap.size [.blk wl9.heap.size #[.int .i64 ((m : Int) + 1), .int .i64 ((m : Int) + x.n)] 3, .blk wl7.heap.size #[.int .i64 x.op, .int .i64 x.a, .int .i64 x.b, .int .i64 x.n] 42, .blk W1.heap.size #[.slice (some ⟨fb, fo, none⟩) 3 d1] 26]) (.slice (some ⟨xb, xo, none⟩) c.length cc) c) := Lib.hid pHc
                    have Hk : Hid (RdSl iE wl11 (Fr w.heap.size [.blk wl9.heap.size #[.int .i64 ((m : Int) + 1), .int .i64 ((m : Int) + x.n)] 3, .blk wl7.heap.size #[.int .i64 x.op, .int .i64 x.a, .int .i64 x.b, .int .i64 x.n] 42, .blk W1.heap.size #[.slice (some ⟨fb, fo, none⟩) 3 d1] 26]) (.slice t0 8 tc) k1) := Lib.hid pHk
                    clear ht pHp pHt pHc pHk
                    obtain ⟨r_ws, q_ws, r_x, q_x, r_p, q_p, -⟩ := HT.out.rules
                    have z_ws : wl9.heap.size < wl11.heap.size := (HT.out.in_ 0 rfl rfl).2
                    have z_x : wl7.heap.size < wl11.heap.size := (HT.out.in_ 1 rfl rfl).2
                    have z_p : W1.heap.size < wl11.heap.size := (HT.out.in_ 2 rfl rfl).2
                    by_cases hq3 : q < 2
                    · obtain ⟨tv, htv, htm⟩ : ∃ tv, (#[.int .i64 ((m : Int) + 1), .int .i64 ((m : Int) + x.n)] : Array Value)[q]? = some (.int .i64 tv) ∧ tv ∈ [(m : Int) + 1, (m : Int) + x.n] := by
                        rcases (by omega : q = 0 ∨ q = 1) with rfl | rfl
                        · exact ⟨_, rfl, by simp⟩
                        · exact ⟨_, rfl, by simp⟩
                      obtain ⟨q2, rfl, hq4, k2, hk2, h82, hall⟩ := HW.out tv htm
                      obtain ⟨va, vb, ha, hb, hj⟩ := hall r hr9
                      have cw := r_ws q
                      rw [htv] at cw
                      obtain ⟨tb8, tn8, t1, tc1, e8, _, _, x0, hrk1⟩ := Ht.out.at_s HK1.out
                      injection e8 with e8
                      injection e8 with e1 e2
                      subst e1 e2
                      rw [hl8] at x0 hrk1
                      obtain ⟨tb8, tn8, t2, tc2, e8, _, _, x1, hrk2⟩ := Ht.out.at_s hk2
                      injection e8 with e8
                      injection e8 with e1 e2
                      subst e1 e2
                      rw [h82] at x1 hrk2
                      obtain ⟨c1b, c1o, rfl, _, _, z0⟩ := hrk1.at_i ha
                      obtain ⟨c2b, c2o, rfl, _, _, z1⟩ := hrk2.at_i hb
                      have GJ := Lib.hid (fun W => join_any va vb W)
                      rw [hj] at GJ
                      have e7 : (vb != vb) = false := by simp
                      have j10 : (q : Int) < 2 := by omega
                      have j11 : (0 : Int) ≤ (q : Int) := by omega
                      have j12 : (0 : Int) ≤ (q2 : Int) := by omega
                      have j13 : (q2 : Int) < (c.length : Int) := by omega
                      clear r_ws htv htm hall hk2 ha hb hj hrk1 hrk2 h82
                      go_wp2_with fail
                      refine wp_region_plan [.still [0, 1, 2, 3, 4, 5, 6, 7, 8, 9, 10, 11, 12, 13, 15, 16, 17, 18, 19, 20, 21], .loud 14 [15, 16, 17, 18, 19, 20, 21], .still [22]] (by kernel_rfl) (by kernel_rfl) ?_
                      refine plan_still ?_
                      simp only [pick, List.getElem?_toArray, List.getElem?_cons_succ, List.getElem?_cons_zero]
                      repeat still_step
                      refine wpStill_nil ?_
                      refine plan_loud ?_
                      simp only [pick, List.getElem?_toArray, List.getElem?_cons_succ, List.getElem?_cons_zero]
                      go_wp2_with fail
                      refine (GJ.out _).mono ?_
                      rintro en W' ⟨rfl, rfl⟩
                      go_wp2_with fail
                      refine ⟨?_, ?_⟩
                      · simp only [Again, pick, List.getElem?_toArray, List.getElem?_cons_succ, List.getElem?_cons_zero]
                        refine ⟨?_, ?_, ?_, ?_, ?_, ?_, ?_, trivial⟩
                        all_goals (still_step; exact wpStill_nil rfl)
                      refine plan_still ?_
                      simp only [pick, List.getElem?_toArray, List.getElem?_cons_succ, List.getElem?_cons_zero]
                      repeat still_step
                      refine wpStill_nil ?_
                      refine plan_end (NoPanic.normal ?_)
                      obtain ⟨T', K'⟩ := HT.out.drew'
                      replace HT := Lib.hid T'
                      replace Hp := Lib.hid (Hp.out.move (by decide) K')
                      replace Ht := Lib.hid (Ht.out.move (by decide) K')
                      replace Hc := Lib.hid (Hc.out.move (by decide) K')
                      replace Hk := Lib.hid (Hk.out.move (by decide) K')
                      clear T' K'
                      replace hz : w.heap.size ≤ wl11.drew.heap.size := hz
                      clear x0 x1 z0 z1 cw
                      go_wp2_with fail
                      clear q_ws r_x q_x r_p q_p z_ws z_x z_p
                      go_roundw
                      case rel =>
                        refine ⟨q + 1, ?_, ?_, ?_, ?_, ?_, ?_, ?_, ?_⟩
                        · go_num
                        · omega
                        · with_reducible exact HT.out
                        · with_reducible exact Hp.out
                        · with_reducible exact Ht.out
                        · with_reducible exact Hc.out
                        · with_reducible exact Hk.out
                        · exact hz
                      case measure => simp [intOf]; omega
                    · have j10 : ¬ (q : Int) < 2 := by omega
                      go_wp2_with fail
                      obtain ⟨T', K'⟩ := HT.out.drop 0
                      simp only [List.eraseIdx_cons_zero] at T' K'
                      replace HT := Lib.hid T'
                      replace Hp := Lib.hid (Hp.out.move (by decide) K')
                      replace Ht := Lib.hid (Ht.out.move (by decide) K')
                      replace Hc := Lib.hid (Hc.out.move (by decide) K')
                      replace Hk := Lib.hid (Hk.out.move (by decide) K')
                      clear T' K'
                      clear r_ws q_ws r_x q_x r_p q_p z_ws z_x z_p
                      go_roundw
                      case rel =>
                        refine ⟨r + 1, ?_, ?_, ?_, ?_, ?_, ?_, ?_, ?_⟩
                        · go_num
                        · omega
                        · with_reducible exact HT.out
                        · with_reducible exact Hp.out
                        · with_reducible exact Ht.out
                        · with_reducible exact Hc.out
                        · with_reducible exact Hk.out
                        · exact hz
                      case measure => simp [intOf]; omega
                · have j8 : ¬ (r : Int) < 8 := by omega
                  go_wp2_with fail
                  obtain ⟨T', K'⟩ := HT.out.drop 0
                  simp only [List.eraseIdx_cons_zero] at T' K'
                  replace HT := Lib.hid T'
                  replace Hp := Lib.hid (Hp.out.move (by decide) K')
                  replace Ht := Lib.hid (Ht.out.move (by decide) K')
                  replace Hc := Lib.hid (Hc.out.move (by decide) K')
                  replace Hk := Lib.hid (Hk.out.move (by decide) K')
                  clear T' K'
                  clear Hk
                  clear r_x q_x r_p q_p z_x z_p
                  go_roundw
                  case rel =>
                    refine ⟨m + 1, ?_, ?_, ?_, ?_, ?_, ?_, ?_⟩
                    · go_num
                    · omega
                    · with_reducible exact HT.out
                    · with_reducible exact Hp.out
                    · with_reducible exact Hc.out
                    · with_reducible exact Ht.out
                    · exact hz
                  case measure => simp [intOf]; omega
            · have e5 : (x.op != 5) = true := by simpa using h5
              go_wp2_with fail
              clear y0
              obtain ⟨T', K'⟩ := HT.out.drop 0
              simp only [List.eraseIdx_cons_zero] at T' K'
              replace HT := Lib.hid T'
              replace Hp := Lib.hid (Hp.out.move (by decide) K')
              replace Ht := Lib.hid (Ht.out.move (by decide) K')
              replace Hc := Lib.hid (Hc.out.move (by decide) K')
              replace Hk := Lib.hid (Hk.out.move (by decide) K')
              clear T' K'
              clear Hk
              clear r_x q_x r_p q_p z_x z_p
              go_roundw
              case rel =>
                refine ⟨m + 1, ?_, ?_, ?_, ?_, ?_, ?_, ?_⟩
                · go_num
                · omega
                · with_reducible exact HT.out
                · with_reducible exact Hp.out
                · with_reducible exact Hc.out
                · with_reducible exact Ht.out
                · exact hz
              case measure => simp [intOf]; omega
        · have j6 : ¬ (m : Int) < (c.length : Int) := by omega
          go_wp2_with fail
          clear r_p q_p z_p
          go_roundw
          case rel =>
            refine ⟨k + 1, ?_, ?_, ?_, ?_, ?_⟩
            · go_num
            · omega
            · with_reducible exact HT.out
            · with_reducible exact Hp.out
            · exact hz
          case measure => simp [intOf]; omega
    · have j1 : ¬ (k : Int) < 3 := by omega
      clear hk hk3
      go_wp2_with fail
      have GD := types_any _ B1 d1 ps 3 wl3 (Hu.out.below HT.out.below) (by rw [h3]; exact Hp.out)
      unfold TypesD at GD
      rw [HT3.out, h3] at GD
      dsimp only [List.length] at GD
      have HGD := Lib.hid GD
      clear GD
      refine (HGD.out).mono ?_
      rintro en W4 ⟨A5, d5, rfl, -, hb⟩
      clear r_p q_p z_p
      obtain ⟨T', K'⟩ := HT.out.call hb
      replace HT := Lib.hid T'
      replace Hp := Lib.hid (Hp.out.move (by decide) K')
      clear T' K'
      replace hz : w.heap.size ≤ W4.heap.size := Nat.le_trans hz hb.size
      clear hb
      obtain ⟨r_p, q_p, -⟩ := HT.out.rules
      have z_p : W1.heap.size < W4.heap.size := (HT.out.in_ 0 rfl rfl).2
      clear HGD
      go_wp2_with fail
      have GD := verCheck_any _ B1 d1 ps W4 (Hu.out.below HT.out.below) (by rw [h3]; exact Hp.out)
      rw [HV.out, h3] at GD
      dsimp only at GD
      have HGD := Lib.hid GD
      clear GD
      refine (HGD.out).mono ?_
      rintro en W5 ⟨rfl, hb⟩
      clear r_p q_p z_p
      obtain ⟨T', K'⟩ := HT.out.call hb
      replace HT := Lib.hid T'
      replace Hp := Lib.hid (Hp.out.move (by decide) K')
      clear T' K'
      replace hz : w.heap.size ≤ W5.heap.size := Nat.le_trans hz hb.size
      clear hb
      obtain ⟨r_p, q_p, -⟩ := HT.out.rules
      have z_p : W1.heap.size < W5.heap.size := (HT.out.in_ 0 rfl rfl).2
      clear HGD
      go_wp2_with fail
      go_ret
      exact ⟨rfl, HT.out.below⟩

theorem lifted (os : Os) (started : os.Started) (H : Type) (enc : TypeId × Value → H) :
    ReturnsInHanded {} Tryd.checked os 7 .any (fun w args => (Rows.typesFlowSpec.pre enc Tryd.prog Tryd.f7 [] false w args ∧ laidMetH Tryd.prog Rows.typesFlowRow.laid w) ∧ sizedMet enc Tryd.prog Tryd.f7 (OpenSpec.ofChange Rows.typesFlowSpec) false w args) (Rows.typesFlowSpec.post enc Tryd.prog Tryd.f7 false true false false) := by
  refine returnsInHanded_of_change_and (C := Tryd.checked) (X := fun w _ => laidMetH Tryd.prog Rows.typesFlowRow.laid w) (fun _ _ _ hh h => h.of_heap hh) own started (by kernel_rfl) Tryd.func7
    (ChangeSpec.witness_shaped (enc := enc) (C := Tryd.checked) (os := os) (X := fun w _ => laidMetH Tryd.prog Rows.typesFlowRow.laid w) false (World.doorLaid Tryd.prog 400 os) #[.slice none 0 0] 8 rfl (World.shaped_of_RefB (by kernel_rfl) (by kernel_rfl)) (by kernel_rfl) (by kernel_rfl) (by kernel_rfl) (door_met os _)) ?_
  intro W base args ds gs before hval0 hW _ hsz0 hL _
  have hval : ∀ (j : Nat) t v, Tryd.f7.params[j]? = some t → args[j]? = some v → Value.okWide Tryd.prog W .any base t v := hval0
  have hsz : (DataW.weightsEach Tryd.prog (Tryd.f7.params.toList ++ Rows.typesFlowSpec.plain.varTypes Tryd.prog) (ds ++ gs)).all (· ≤ reachBytes) = true := hsz0
  have hW' := hW
  obtain ⟨p, q, hA0, hV, rfl, hfz, hnd⟩ := hW
  have hA : DataW.TrodAll enc Tryd.prog W 0 (fun _ => true) true Tryd.f7.params.toList args.toList ds p := hA0
  rw [Tryd.params7] at hA hval hsz
  obtain ⟨v0, vs0, d0, ds0, p0, q0, hargs, rfl, rfl, h0, r0⟩ := trodAll_cons hA
  obtain ⟨rfl, rfl, rfl⟩ := trodAll_nil r0
  obtain rfl : args = #[v0] := by cases args; simp_all
  obtain ⟨rfl, rfl⟩ := trodVars_none hV
  obtain ⟨x0, A0, c0, rfl, y0⟩ := arg_rs h0 (hval 0 22 v0 rfl rfl) (sized_at hsz (j := 0) rfl rfl)
  clear hA0 hval0 hsz0
  refine (walk W x0 A0 c0 y0 (uses_of hL)).mono fun e W' ⟨he, hb⟩ => ?_
  subst he
  exact ⟨_, rfl, law_post (tb := 4) laidOut Tryd.underlying4 (by kernel_rfl) (by rw [Tryd.params7]; exact all_types (by kernel_rfl)) rfl hW' rfl hb⟩

theorem closed : joinedFacts Tryd.prog 7 Tryd.f7 Rows.typesFlowSpec Rows.typesFlowRow = true :=
  facts_of (by kernel_rfl) laidOut fact_rowed (by kernel_rfl) (by kernel_rfl) (by kernel_rfl) fact_stops (by kernel_rfl) fact_knobs (by kernel_rfl) (by kernel_rfl) (by kernel_rfl) (by kernel_rfl) (by kernel_rfl) (by kernel_rfl) (by kernel_rfl) (by kernel_rfl) (by kernel_rfl) (by kernel_rfl) (by kernel_rfl) (by kernel_rfl) (by kernel_rfl) (by kernel_rfl) (by kernel_rfl) fact_heard fact_may (by rw [fact_lifts]; rfl) fact_make ⟨rfl, rfl⟩ (by kernel_rfl) (by kernel_rfl) (by kernel_rfl)
theorem over : Rows.typesFlowRow.holds Tryd.pinned (OpenSpec.ofChange Rows.typesFlowSpec) :=
  OpenClaim.holds_of_wide 7 Tryd.f7 rfl rfl rfl rfl rfl rfl rfl ⟨rfl, rfl, rfl, rfl, rfl⟩ rfl rfl rfl rfl rfl (by kernel_rfl) Tryd.func7 closed
    (of_decide_eq_true (by kernel_rfl)) (by unfold Func.isWrapper; first | (rw [if_pos (by decide +kernel)]; kernel_rfl) | (rw [if_neg (by decide +kernel)]; exact ⟨rfl, rfl⟩))
    (fun os started H enc _ => lifted os started H enc)
/-- THE STATEMENT: the tied card. -/
theorem proved : Rows.TypesFlowCardSaid := by
  unfold Rows.TypesFlowCardSaid Rows.typesFlowCard
  exact Claim7.holds_tied_plain_at .later [] [.data] true _ _ over (fun _ h => by cases h) (by kernel_rfl) (fun _ h => by cases h) typesFlow_row_tie rfl ⟨rfl, rfl⟩ (by kernel_rfl) rfl
    (fun f fn hf hfn => by
      obtain rfl : f = 7 := Option.some.inj ((show Tryd.prog.funcNamed "treadwheel/treadwheelkeep.TypesFlow" = some 7 by kernel_rfl).symm.trans hf) |>.symm
      obtain rfl : fn = Tryd.f7 := (Option.some.inj (Tryd.func7.symm.trans hfn)).symm
      exact ⟨by kernel_rfl, fun j t ht => by
        rw [Tryd.params7] at ht
        have hm : t ∈ ([22] : List TypeId) := by simpa using Array.mem_of_getElem? ht
        have hall : (([22] : List TypeId).all fun u => !Tryd.prog.wantsStandIn u) = true := by kernel_rfl
        exact (show Tryd.prog.wantsStandIn t = false by simpa using List.all_eq_true.1 hall t hm)⟩)
    (by kernel_rfl)
#print axioms proved
end Go.Proofs.YtabcjdalifhpdaaDoor.lawTypesFlow
