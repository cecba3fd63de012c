/- THE STATEMENT 'ProgramsBack': for every input the call returns true, and each argument reads behind it as it did: proved out of the walks. Condition: the row's own: the table of operators reads as the program's text lays it, which the card ties. -/
import Derived.Test.YtabcjdalifhpdaaDoorBytesC
import Derived.Test.YtabcjdalifhpdaaDoorEqual
import Derived.Test.YtabcjdalifhpdaaDoorCloneB
import Derived.Test.YtabcjdalifhpdaaDoorFacts
import Derived.Test.YtabcjdalifhpdaaDoorLaid
import Derived.Test.YtabcjdalifhpdaaDoorTie
import Derived.Test.YtabcjdalifhpdaaDoorCards
import Derived.SevenTiedAt
set_option maxRecDepth 100000
namespace Go.Proofs.YtabcjdalifhpdaaDoor.lawProgramsBack
open Go.ChangeShapes Go.WideShapes Go.ChangeAt Go.RowKit
set_option linter.unusedVariables false

def b8cs (l : List UInt8) : List (List Value) := l.map (fun x => [.int .u8 x.toNat])
theorem b8cs_held {w : World} {S : Nat → Prop} (l : List UInt8) : Held bE w S (b8cs l) l := ⟨by simp [b8cs], fun i x cs hx hc => by
  simp [b8cs, hx] at hc
  subst hc
  exact ⟨rfl, rfl⟩⟩
theorem held_bcs {w : World} {S : Nat → Prop} {css : List (List Value)} {xs : List UInt8} (h : Held bE w S css xs) : css = b8cs xs := by
  apply List.ext_getElem?
  intro i
  rcases Nat.lt_or_ge i xs.length with hl | hg
  · have hx : xs[i]? = some xs[i] := List.getElem?_eq_getElem hl
    have hc : css[i]? = some (css[i]'(by rw [h.len]; exact hl)) := List.getElem?_eq_getElem _
    have hr : css[i]'(by rw [h.len]; exact hl) = [.int .u8 (xs[i]).toNat] := (h.each i _ _ hx hc).2
    rw [hc, hr, b8cs, List.getElem?_map, hx]
    rfl
  · rw [List.getElem?_eq_none (by rw [h.len]; exact hg), List.getElem?_eq_none (by simpa [b8cs] using hg)]
set_option maxRecDepth 100000 in
set_option maxHeartbeats 16000000 in
theorem walk (w : World) (l : List Rw) (A : Option Addr) (c : Nat) (hr : RdSl rwE w (fun _ => True) (.slice A l.length c) l) (cut : Int) (ha : -9223372036854775808 ≤ cut ∧ cut ≤ 9223372036854775807) (hu : UsesAt w) :
    Calls Tryd.prog 10 #[.slice A l.length c, .int .i64 cut] w fun e w' => e = .returned (.bool true) ∧ Below w.heap.size w w' := by
  have Hu := Lib.hid hu
  have hf := programK_ok (l := l) (most := 12) (by omega)
  obtain ⟨ps, hps⟩ : ∃ ps, programK l 12 = ps := ⟨_, rfl⟩
  have hb8 := I8_bytes (progB_all hf)
  have hlen := progK_len (l := l) (most := 12) (by omega)
  have h3 := programK_len l 12
  have GP := fun W S A c => programK_any S A c l 12 W
  rw [hps] at hf hb8 hlen h3 GP
  obtain ⟨bs, hbs⟩ : ∃ bs, bytes8 (progB ps) = bs := ⟨_, rfl⟩
  have hbl : (progB ps).length = bs.length := by rw [← hbs]; simp [bytes8]
  rw [hbs] at hb8
  have hpos : 0 < bs.length := by rw [← hbl]; simp [progB]
  have hle : bs.length ≤ 600 := by omega
  have hkl := pickN_lt cut bs.length (by omega)
  have Gk := Lib.hid (fun W => picked_any cut bs.length ha.1 ha.2 (by omega) (by omega) W)
  generalize pickN cut bs.length = kc at *
  obtain ⟨k, rfl⟩ := Int.eq_ofNat_of_zero_le hkl.1
  have hk : k < bs.length := by omega
  have hD1 : progD (I8 bs) = .ok ps := by rw [hb8]; exact progD_all hf (by omega)
  have hD2 : progD (I8 (bs.take k)) = .error 5 := by
    rw [show I8 (bs.take k) = (I8 bs).take k by simp [I8, List.map_take], hb8]
    exact progD_cut hf (by omega) (by omega)
  have hD3 : progD (I8 (bs ++ [0])) = .error 4 := by
    rw [show I8 (bs ++ [0]) = I8 bs ++ [0] by simp [I8], hb8]
    exact progD_more hf (by omega) 0
  have HF := Lib.hid hf
  have HB8 := Lib.hid hb8
  have GG := Lib.hid GP
  have HD1 := Lib.hid hD1
  have HD2 := Lib.hid hD2
  have HD3 := Lib.hid hD3
  have Hr := Lib.hid hr
  have hkt : (bs.take k).length = k := by rw [List.length_take]; omega
  have k1 : (0 : Int) ≤ (k : Int) := by omega
  have k2 : (k : Int) ≤ (bs.length : Int) := by omega
  clear hu hr hf hb8 hlen GP hps hbs hbl hD1 hD2 hD3 ha hkl
  have T0 : St w.heap.size w w [] := St.start w (Nat.le_refl _)
  have HT := Lib.hid T0
  have hz : w.heap.size ≤ w.heap.size := by simp
  clear T0
  replace Hr : Hid (RdSl rwE w (Fr 0 []) (.slice A l.length c) l) := Lib.hid (Hr.out.pool (by decide) HT.out)
  go_enter Tryd.func10, Tryd.ntmps10
  go_wp2_with fail
  refine (codeTells_any _ (Hu.out.below HT.out.below)).mono ?_
  rintro en W1 ⟨rfl, hb⟩
  obtain ⟨T', K'⟩ := HT.out.call hb
  replace T' : St w.heap.size w W1 [] := T'
  replace K' : Keeps w [] W1 [] := K'
  replace HT := Lib.hid T'
  replace Hr : Hid (RdSl rwE W1 (Fr 0 []) (.slice A l.length c) l) := Lib.hid (Hr.out.move (by decide) K')
  clear T' K'
  replace hz : w.heap.size ≤ W1.heap.size := Nat.le_trans hz hb.size
  clear hb
  go_wp2_with fail
  refine (GG.out _ _ _ _ (by omega) (Hu.out.below HT.out.below) Hr.out).mono ?_
  rintro en W2 ⟨B1, d1, rfl, hrp, hb⟩
  have Hfresh := Lib.hid (HT.out)
  have hzo : w.heap.size ≤ W1.heap.size := by omega
  obtain ⟨T', K'⟩ := HT.out.call hb
  replace T' : St w.heap.size w W2 [] := T'
  replace K' : Keeps W1 [] W2 [] := K'
  replace HT := Lib.hid T'
  replace Hr : Hid (RdSl rwE W2 (Fr 0 []) (.slice A l.length c) l) := Lib.hid (Hr.out.move (by decide) K')
  clear T' K'
  replace hz : w.heap.size ≤ W2.heap.size := Nat.le_trans hz hb.size
  clear hb
  have Hp : Hid (RdSl pgE W2 (Fr w.heap.size []) (.slice B1 3 d1) ps) := Lib.hid (hrp.fresh (by first | decide | (show 0 < 1; omega)) Hfresh.out hzo)
  clear hrp
  clear Hfresh hzo
  clear Hr
  skip
  go_upto_region 4 with fail
  obtain ⟨T', K'⟩ := HT.out.new' #[.slice B1 3 d1] 26 W2.heap.size (by first | (simp; done) | rfl)
  replace T' : St w.heap.size w ((W2.alloc (.cells #[.slice B1 3 d1] 26))) [.blk W2.heap.size #[.slice B1 3 d1] 26] := T'
  replace K' : Keeps W2 [] ((W2.alloc (.cells #[.slice B1 3 d1] 26))) [.blk W2.heap.size #[.slice B1 3 d1] 26] := K'
  replace HT := Lib.hid T'
  replace Hp : Hid (RdSl pgE ((W2.alloc (.cells #[.slice B1 3 d1] 26))) (Fr w.heap.size [.blk W2.heap.size #[.slice B1 3 d1] 26]) (.slice B1 3 d1) ps) := Lib.hid (Hp.out.move (by decide) K')
  clear T' K'
  replace hz : w.heap.size ≤ ((W2.alloc (.cells #[.slice B1 3 d1] 26))).heap.size := Nat.le_trans hz (by simp)
  generalize (W2.alloc (.cells #[.slice B1 3 d1] 26)) = W3 at *
  obtain ⟨r_p, q_p, -⟩ := HT.out.rules
  have z_p : W2.heap.size < W3.heap.size := (HT.out.in_ 0 rfl rfl).2
  go_wp2_with fail
  have GE := encodeB_any _ B1 d1 ps bs W3 HF.out HB8.out (by omega) (Hu.out.below HT.out.below) (by rw [h3]; exact Hp.out)
  rw [h3] at GE
  have HGE := Lib.hid GE
  clear GE
  refine (HGE.out).mono ?_
  rintro en W4 ⟨B2, d2, rfl, hrb, hb⟩
  clear r_p q_p z_p
  have Hfresh := Lib.hid (HT.out)
  have hzo : w.heap.size ≤ W3.heap.size := by omega
  obtain ⟨T', K'⟩ := HT.out.call hb
  replace T' : St w.heap.size w W4 [.blk W2.heap.size #[.slice B1 3 d1] 26] := T'
  replace K' : Keeps W3 [.blk W2.heap.size #[.slice B1 3 d1] 26] W4 [.blk W2.heap.size #[.slice B1 3 d1] 26] := K'
  replace HT := Lib.hid T'
  replace Hp : Hid (RdSl pgE W4 (Fr w.heap.size [.blk W2.heap.size #[.slice B1 3 d1] 26]) (.slice B1 3 d1) ps) := Lib.hid (Hp.out.move (by decide) K')
  clear T' K'
  replace hz : w.heap.size ≤ W4.heap.size := Nat.le_trans hz hb.size
  clear hb
  have Hb : Hid (RdSl bE W4 (Fr w.heap.size [.blk W2.heap.size #[.slice B1 3 d1] 26]) (.slice B2 bs.length d2) bs) := Lib.hid (hrb.fresh (by first | decide | (show 0 < 1; omega)) Hfresh.out hzo)
  clear hrb
  clear Hfresh hzo
  obtain ⟨r_p, q_p, -⟩ := HT.out.rules
  have z_p : W2.heap.size < W4.heap.size := (HT.out.in_ 0 rfl rfl).2
  clear HGE
  obtain ⟨x0, hx0⟩ : ∃ x, bs[0]? = some x := ⟨bs[0], List.getElem?_eq_getElem hpos⟩
  obtain ⟨bb, bo, rfl, _, _, x1⟩ := Hb.out.at_b hx0
  clear hx0 x1
  replace Hb : Hid (RdSl bE W4 (Fr w.heap.size [.blk W2.heap.size #[.slice B1 3 d1] 26]) (.slice (some ⟨bb, bo, none⟩) bs.length d2) bs) := Hb
  go_wp2_with fail
  have GD := decode_any _ _ _ (bs) W4 (Hu.out.below HT.out.below) Hb.out
  unfold DecD at GD
  rw [HD1.out] at GD
  dsimp only [okL, errL, List.length] at GD
  rw [h3] at GD
  have HGD := Lib.hid GD
  clear GD
  refine (HGD.out).mono ?_
  rintro en W5 ⟨A3, d3, rfl, hrq, hb⟩
  clear r_p q_p z_p
  have Hfresh := Lib.hid (HT.out)
  have hzo : w.heap.size ≤ W4.heap.size := by omega
  obtain ⟨T', K'⟩ := HT.out.call hb
  replace T' : St w.heap.size w W5 [.blk W2.heap.size #[.slice B1 3 d1] 26] := T'
  replace K' : Keeps W4 [.blk W2.heap.size #[.slice B1 3 d1] 26] W5 [.blk W2.heap.size #[.slice B1 3 d1] 26] := K'
  replace HT := Lib.hid T'
  replace Hp : Hid (RdSl pgE W5 (Fr w.heap.size [.blk W2.heap.size #[.slice B1 3 d1] 26]) (.slice B1 3 d1) ps) := Lib.hid (Hp.out.move (by decide) K')
  replace Hb : Hid (RdSl bE W5 (Fr w.heap.size [.blk W2.heap.size #[.slice B1 3 d1] 26]) (.slice (some ⟨bb, bo, none⟩) bs.length d2) bs) := Lib.hid (Hb.out.move (by decide) K')
  clear T' K'
  replace hz : w.heap.size ≤ W5.heap.size := Nat.le_trans hz hb.size
  clear hb
  have Hq : Hid (RdSl pgE W5 (Fr w.heap.size [.blk W2.heap.size #[.slice B1 3 d1] 26]) (.slice A3 3 d3) ps) := Lib.hid (hrq.fresh (by first | decide | (show 0 < 1; omega)) Hfresh.out hzo)
  clear hrq
  clear Hfresh hzo
  obtain ⟨r_p, q_p, -⟩ := HT.out.rules
  have z_p : W2.heap.size < W5.heap.size := (HT.out.in_ 0 rfl rfl).2
  clear HGD
  go_upto_region 6 with fail
  obtain ⟨T', K'⟩ := HT.out.new' #[.slice A3 3 d3] 26 W5.heap.size (by first | (simp; done) | rfl)
  replace T' : St w.heap.size w ((W5.alloc (.cells #[.slice A3 3 d3] 26))) [.blk W5.heap.size #[.slice A3 3 d3] 26, .blk W2.heap.size #[.slice B1 3 d1] 26] := T'
  replace K' : Keeps W5 [.blk W2.heap.size #[.slice B1 3 d1] 26] ((W5.alloc (.cells #[.slice A3 3 d3] 26))) [.blk W5.heap.size #[.slice A3 3 d3] 26, .blk W2.heap.size #[.slice B1 3 d1] 26] := K'
  replace HT := Lib.hid T'
  replace Hp : Hid (RdSl pgE ((W5.alloc (.cells #[.slice A3 3 d3] 26))) (Fr w.heap.size [.blk W5.heap.size #[.slice A3 3 d3] 26, .blk W2.heap.size #[.slice B1 3 d1] 26]) (.slice B1 3 d1) ps) := Lib.hid (Hp.out.move (by decide) K')
  replace Hb : Hid (RdSl bE ((W5.alloc (.cells #[.slice A3 3 d3] 26))) (Fr w.heap.size [.blk W5.heap.size #[.slice A3 3 d3] 26, .blk W2.heap.size #[.slice B1 3 d1] 26]) (.slice (some ⟨bb, bo, none⟩) bs.length d2) bs) := Lib.hid (Hb.out.move (by decide) K')
  replace Hq : Hid (RdSl pgE ((W5.alloc (.cells #[.slice A3 3 d3] 26))) (Fr w.heap.size [.blk W5.heap.size #[.slice A3 3 d3] 26, .blk W2.heap.size #[.slice B1 3 d1] 26]) (.slice A3 3 d3) ps) := Lib.hid (Hq.out.move (by decide) K')
  clear T' K'
  replace hz : w.heap.size ≤ ((W5.alloc (.cells #[.slice A3 3 d3] 26))).heap.size := Nat.le_trans hz (by simp)
  clear r_p q_p z_p
  generalize (W5.alloc (.cells #[.slice A3 3 d3] 26)) = W6 at *
  obtain ⟨r_q, q_q, r_p, q_p, -⟩ := HT.out.rules
  have z_q : W5.heap.size < W6.heap.size := (HT.out.in_ 0 rfl rfl).2
  have z_p : W2.heap.size < W6.heap.size := (HT.out.in_ 1 rfl rfl).2
  go_wp2_with fail
  have GE := encodeB_any _ A3 d3 ps bs W6 HF.out HB8.out (by omega) (Hu.out.below HT.out.below) (by rw [h3]; exact Hq.out)
  rw [h3] at GE
  have HGE := Lib.hid GE
  clear GE
  refine (HGE.out).mono ?_
  rintro en W7 ⟨B4, d4, rfl, hrb, hb⟩
  clear r_q q_q r_p q_p z_q z_p
  have Hfresh := Lib.hid (HT.out)
  have hzo : w.heap.size ≤ W6.heap.size := by omega
  obtain ⟨T', K'⟩ := HT.out.call hb
  replace T' : St w.heap.size w W7 [.blk W5.heap.size #[.slice A3 3 d3] 26, .blk W2.heap.size #[.slice B1 3 d1] 26] := T'
  replace K' : Keeps W6 [.blk W5.heap.size #[.slice A3 3 d3] 26, .blk W2.heap.size #[.slice B1 3 d1] 26] W7 [.blk W5.heap.size #[.slice A3 3 d3] 26, .blk W2.heap.size #[.slice B1 3 d1] 26] := K'
  replace HT := Lib.hid T'
  replace Hp : Hid (RdSl pgE W7 (Fr w.heap.size [.blk W5.heap.size #[.slice A3 3 d3] 26, .blk W2.heap.size #[.slice B1 3 d1] 26]) (.slice B1 3 d1) ps) := Lib.hid (Hp.out.move (by decide) K')
  replace Hb : Hid (RdSl bE W7 (Fr w.heap.size [.blk W5.heap.size #[.slice A3 3 d3] 26, .blk W2.heap.size #[.slice B1 3 d1] 26]) (.slice (some ⟨bb, bo, none⟩) bs.length d2) bs) := Lib.hid (Hb.out.move (by decide) K')
  replace Hq : Hid (RdSl pgE W7 (Fr w.heap.size [.blk W5.heap.size #[.slice A3 3 d3] 26, .blk W2.heap.size #[.slice B1 3 d1] 26]) (.slice A3 3 d3) ps) := Lib.hid (Hq.out.move (by decide) K')
  clear T' K'
  replace hz : w.heap.size ≤ W7.heap.size := Nat.le_trans hz hb.size
  clear hb
  have Hc : Hid (RdSl bE W7 (Fr w.heap.size [.blk W5.heap.size #[.slice A3 3 d3] 26, .blk W2.heap.size #[.slice B1 3 d1] 26]) (.slice B4 bs.length d4) bs) := Lib.hid (hrb.fresh (by first | decide | (show 0 < 1; omega)) Hfresh.out hzo)
  clear hrb
  clear Hfresh hzo
  obtain ⟨r_q, q_q, r_p, q_p, -⟩ := HT.out.rules
  have z_q : W5.heap.size < W7.heap.size := (HT.out.in_ 0 rfl rfl).2
  have z_p : W2.heap.size < W7.heap.size := (HT.out.in_ 1 rfl rfl).2
  clear HGE
  go_wp2_with fail
  refine (Gk.out _).mono ?_
  rintro en W' ⟨rfl, rfl⟩
  obtain ⟨-, hl1, hl2, -⟩ := Hb.out.lims
  have k3 : (k : Int) ≤ (d2 : Int) := by omega
  have k4 : k ≤ d2 := by omega
  go_wp2_with fail
  have GD := decode_any _ _ _ (bs.take k) W7 (Hu.out.below HT.out.below) (Hb.out.takeB (k := k) (by omega))
  unfold DecD at GD
  rw [HD2.out] at GD
  dsimp only [okL, errL, List.length] at GD
  rw [hkt] at GD
  have HGD := Lib.hid GD
  clear GD
  refine (HGD.out).mono ?_
  rintro en W8 ⟨A5, d5, rfl, -, hb⟩
  clear r_q q_q r_p q_p z_q z_p
  obtain ⟨T', K'⟩ := HT.out.call hb
  replace T' : St w.heap.size w W8 [.blk W5.heap.size #[.slice A3 3 d3] 26, .blk W2.heap.size #[.slice B1 3 d1] 26] := T'
  replace K' : Keeps W7 [.blk W5.heap.size #[.slice A3 3 d3] 26, .blk W2.heap.size #[.slice B1 3 d1] 26] W8 [.blk W5.heap.size #[.slice A3 3 d3] 26, .blk W2.heap.size #[.slice B1 3 d1] 26] := K'
  replace HT := Lib.hid T'
  replace Hp : Hid (RdSl pgE W8 (Fr w.heap.size [.blk W5.heap.size #[.slice A3 3 d3] 26, .blk W2.heap.size #[.slice B1 3 d1] 26]) (.slice B1 3 d1) ps) := Lib.hid (Hp.out.move (by decide) K')
  replace Hb : Hid (RdSl bE W8 (Fr w.heap.size [.blk W5.heap.size #[.slice A3 3 d3] 26, .blk W2.heap.size #[.slice B1 3 d1] 26]) (.slice (some ⟨bb, bo, none⟩) bs.length d2) bs) := Lib.hid (Hb.out.move (by decide) K')
  replace Hq : Hid (RdSl pgE W8 (Fr w.heap.size [.blk W5.heap.size #[.slice A3 3 d3] 26, .blk W2.heap.size #[.slice B1 3 d1] 26]) (.slice A3 3 d3) ps) := Lib.hid (Hq.out.move (by decide) K')
  replace Hc : Hid (RdSl bE W8 (Fr w.heap.size [.blk W5.heap.size #[.slice A3 3 d3] 26, .blk W2.heap.size #[.slice B1 3 d1] 26]) (.slice B4 bs.length d4) bs) := Lib.hid (Hc.out.move (by decide) K')
  clear T' K'
  replace hz : w.heap.size ≤ W8.heap.size := Nat.le_trans hz hb.size
  clear hb
  obtain ⟨r_q, q_q, r_p, q_p, -⟩ := HT.out.rules
  have z_q : W5.heap.size < W8.heap.size := (HT.out.in_ 0 rfl rfl).2
  have z_p : W2.heap.size < W8.heap.size := (HT.out.in_ 1 rfl rfl).2
  clear HGD
  go_upto_region 8 with fail
  obtain ⟨T', K'⟩ := HT.out.new' #[.slice A5 0 d5] 26 W8.heap.size (by first | (simp; done) | rfl)
  replace T' : St w.heap.size w ((W8.alloc (.cells #[.slice A5 0 d5] 26))) [.blk W8.heap.size #[.slice A5 0 d5] 26, .blk W5.heap.size #[.slice A3 3 d3] 26, .blk W2.heap.size #[.slice B1 3 d1] 26] := T'
  replace K' : Keeps W8 [.blk W5.heap.size #[.slice A3 3 d3] 26, .blk W2.heap.size #[.slice B1 3 d1] 26] ((W8.alloc (.cells #[.slice A5 0 d5] 26))) [.blk W8.heap.size #[.slice A5 0 d5] 26, .blk W5.heap.size #[.slice A3 3 d3] 26, .blk W2.heap.size #[.slice B1 3 d1] 26] := K'
  replace HT := Lib.hid T'
  replace Hp : Hid (RdSl pgE ((W8.alloc (.cells #[.slice A5 0 d5] 26))) (Fr w.heap.size [.blk W8.heap.size #[.slice A5 0 d5] 26, .blk W5.heap.size #[.slice A3 3 d3] 26, .blk W2.heap.size #[.slice B1 3 d1] 26]) (.slice B1 3 d1) ps) := Lib.hid (Hp.out.move (by decide) K')
  replace Hb : Hid (RdSl bE ((W8.alloc (.cells #[.slice A5 0 d5] 26))) (Fr w.heap.size [.blk W8.heap.size #[.slice A5 0 d5] 26, .blk W5.heap.size #[.slice A3 3 d3] 26, .blk W2.heap.size #[.slice B1 3 d1] 26]) (.slice (some ⟨bb, bo, none⟩) bs.length d2) bs) := Lib.hid (Hb.out.move (by decide) K')
  replace Hq : Hid (RdSl pgE ((W8.alloc (.cells #[.slice A5 0 d5] 26))) (Fr w.heap.size [.blk W8.heap.size #[.slice A5 0 d5] 26, .blk W5.heap.size #[.slice A3 3 d3] 26, .blk W2.heap.size #[.slice B1 3 d1] 26]) (.slice A3 3 d3) ps) := Lib.hid (Hq.out.move (by decide) K')
  replace Hc : Hid (RdSl bE ((W8.alloc (.cells #[.slice A5 0 d5] 26))) (Fr w.heap.size [.blk W8.heap.size #[.slice A5 0 d5] 26, .blk W5.heap.size #[.slice A3 3 d3] 26, .blk W2.heap.size #[.slice B1 3 d1] 26]) (.slice B4 bs.length d4) bs) := Lib.hid (Hc.out.move (by decide) K')
  clear T' K'
  replace hz : w.heap.size ≤ ((W8.alloc (.cells #[.slice A5 0 d5] 26))).heap.size := Nat.le_trans hz (by simp)
  clear r_q q_q r_p q_p z_q z_p
  generalize (W8.alloc (.cells #[.slice A5 0 d5] 26)) = W9 at *
  obtain ⟨-, -, r_q, q_q, r_p, q_p, -⟩ := HT.out.rules
  have z_q : W5.heap.size < W9.heap.size := (HT.out.in_ 1 rfl rfl).2
  have z_p : W2.heap.size < W9.heap.size := (HT.out.in_ 2 rfl rfl).2
  go_wp2_with fail
  have hown0 := cloneB_any _ _ _ bs W9 Hb.out
  have HC := Lib.hid hown0
  clear hown0
  refine HC.out.mono ?_
  rintro en Wc ⟨v9, rfl, hown, hb⟩
  obtain ⟨A9, c9, rfl⟩ := hown.form
  obtain ⟨css9, hH9, hown9, -⟩ := hown
  obtain rfl := held_bcs hH9
  clear HC hH9
  clear r_q q_q r_p q_p z_q z_p
  obtain ⟨T', K'⟩ := HT.out.ownRow hb hown9 (m := w.heap.size) HT.out.base
  replace T' : St w.heap.size w Wc [.row w.heap.size 5 1 (.slice A9 bs.length c9) bs.length (cat (b8cs bs)), .blk W8.heap.size #[.slice A5 0 d5] 26, .blk W5.heap.size #[.slice A3 3 d3] 26, .blk W2.heap.size #[.slice B1 3 d1] 26] := T'
  replace K' : Keeps W9 [.blk W8.heap.size #[.slice A5 0 d5] 26, .blk W5.heap.size #[.slice A3 3 d3] 26, .blk W2.heap.size #[.slice B1 3 d1] 26] Wc [.row w.heap.size 5 1 (.slice A9 bs.length c9) bs.length (cat (b8cs bs)), .blk W8.heap.size #[.slice A5 0 d5] 26, .blk W5.heap.size #[.slice A3 3 d3] 26, .blk W2.heap.size #[.slice B1 3 d1] 26] := K'
  replace HT := Lib.hid T'
  replace Hp : Hid (RdSl pgE Wc (Fr w.heap.size [.row w.heap.size 5 1 (.slice A9 bs.length c9) bs.length (cat (b8cs bs)), .blk W8.heap.size #[.slice A5 0 d5] 26, .blk W5.heap.size #[.slice A3 3 d3] 26, .blk W2.heap.size #[.slice B1 3 d1] 26]) (.slice B1 3 d1) ps) := Lib.hid (Hp.out.move (by decide) K')
  replace Hb : Hid (RdSl bE Wc (Fr w.heap.size [.row w.heap.size 5 1 (.slice A9 bs.length c9) bs.length (cat (b8cs bs)), .blk W8.heap.size #[.slice A5 0 d5] 26, .blk W5.heap.size #[.slice A3 3 d3] 26, .blk W2.heap.size #[.slice B1 3 d1] 26]) (.slice (some ⟨bb, bo, none⟩) bs.length d2) bs) := Lib.hid (Hb.out.move (by decide) K')
  replace Hq : Hid (RdSl pgE Wc (Fr w.heap.size [.row w.heap.size 5 1 (.slice A9 bs.length c9) bs.length (cat (b8cs bs)), .blk W8.heap.size #[.slice A5 0 d5] 26, .blk W5.heap.size #[.slice A3 3 d3] 26, .blk W2.heap.size #[.slice B1 3 d1] 26]) (.slice A3 3 d3) ps) := Lib.hid (Hq.out.move (by decide) K')
  replace Hc : Hid (RdSl bE Wc (Fr w.heap.size [.row w.heap.size 5 1 (.slice A9 bs.length c9) bs.length (cat (b8cs bs)), .blk W8.heap.size #[.slice A5 0 d5] 26, .blk W5.heap.size #[.slice A3 3 d3] 26, .blk W2.heap.size #[.slice B1 3 d1] 26]) (.slice B4 bs.length d4) bs) := Lib.hid (Hc.out.move (by decide) K')
  clear T' K'
  replace hz : w.heap.size ≤ Wc.heap.size := Nat.le_trans hz hb.size
  clear hb hown9
  obtain ⟨-, -, r_q, q_q, r_p, q_p, -⟩ := HT.out.rules
  have z_q : W5.heap.size < Wc.heap.size := (HT.out.in_ 2 rfl rfl).2
  have z_p : W2.heap.size < Wc.heap.size := (HT.out.in_ 3 rfl rfl).2
  go_wp2_with (at_builtin; go_loud (refine wpList_append_css rfl (.tmp 47) (.tmp 48) _ rfl (e := 5) (size := 1) (bytes := 1) Tryd.underlying72 infoU8 rfl (by omega) HT.out 0 rfl rfl [.int .u8 0] 5 rfl rfl (by simp [Value.oneCell']) (by unfold maxLen; omega) (by omega) HT.out.base ?next))
  case next =>
    intro A10 c11 W12 T' K' hs3
    try rw [show b8cs bs ++ [[.int .u8 0]] = b8cs (bs ++ [0]) by simp [b8cs]] at T' K'
    clear r_q q_q r_p q_p z_q z_p
    replace T' : St w.heap.size w W12 [.row w.heap.size 5 1 (.slice A10 (bs.length + 1) c11) (bs.length + 1) (cat (b8cs (bs ++ [0]))), .blk W8.heap.size #[.slice A5 0 d5] 26, .blk W5.heap.size #[.slice A3 3 d3] 26, .blk W2.heap.size #[.slice B1 3 d1] 26] := T'
    replace K' : Keeps Wc [.row w.heap.size 5 1 (.slice A9 bs.length c9) bs.length (cat (b8cs bs)), .blk W8.heap.size #[.slice A5 0 d5] 26, .blk W5.heap.size #[.slice A3 3 d3] 26, .blk W2.heap.size #[.slice B1 3 d1] 26] W12 [.row w.heap.size 5 1 (.slice A10 (bs.length + 1) c11) (bs.length + 1) (cat (b8cs (bs ++ [0]))), .blk W8.heap.size #[.slice A5 0 d5] 26, .blk W5.heap.size #[.slice A3 3 d3] 26, .blk W2.heap.size #[.slice B1 3 d1] 26] := K'
    replace HT := Lib.hid T'
    replace Hp : Hid (RdSl pgE W12 (Fr w.heap.size [.row w.heap.size 5 1 (.slice A10 (bs.length + 1) c11) (bs.length + 1) (cat (b8cs (bs ++ [0]))), .blk W8.heap.size #[.slice A5 0 d5] 26, .blk W5.heap.size #[.slice A3 3 d3] 26, .blk W2.heap.size #[.slice B1 3 d1] 26]) (.slice B1 3 d1) ps) := Lib.hid (Hp.out.move (by decide) K')
    replace Hb : Hid (RdSl bE W12 (Fr w.heap.size [.row w.heap.size 5 1 (.slice A10 (bs.length + 1) c11) (bs.length + 1) (cat (b8cs (bs ++ [0]))), .blk W8.heap.size #[.slice A5 0 d5] 26, .blk W5.heap.size #[.slice A3 3 d3] 26, .blk W2.heap.size #[.slice B1 3 d1] 26]) (.slice (some ⟨bb, bo, none⟩) bs.length d2) bs) := Lib.hid (Hb.out.move (by decide) K')
    replace Hq : Hid (RdSl pgE W12 (Fr w.heap.size [.row w.heap.size 5 1 (.slice A10 (bs.length + 1) c11) (bs.length + 1) (cat (b8cs (bs ++ [0]))), .blk W8.heap.size #[.slice A5 0 d5] 26, .blk W5.heap.size #[.slice A3 3 d3] 26, .blk W2.heap.size #[.slice B1 3 d1] 26]) (.slice A3 3 d3) ps) := Lib.hid (Hq.out.move (by decide) K')
    replace Hc : Hid (RdSl bE W12 (Fr w.heap.size [.row w.heap.size 5 1 (.slice A10 (bs.length + 1) c11) (bs.length + 1) (cat (b8cs (bs ++ [0]))), .blk W8.heap.size #[.slice A5 0 d5] 26, .blk W5.heap.size #[.slice A3 3 d3] 26, .blk W2.heap.size #[.slice B1 3 d1] 26]) (.slice B4 bs.length d4) bs) := Lib.hid (Hc.out.move (by decide) K')
    replace hz : w.heap.size ≤ W12.heap.size := by omega
    clear T' K'
    obtain ⟨-, -, r_q, q_q, r_p, q_p, -⟩ := HT.out.rules
    have z_q : W5.heap.size < W12.heap.size := (HT.out.in_ 2 rfl rfl).2
    have z_p : W2.heap.size < W12.heap.size := (HT.out.in_ 3 rfl rfl).2
    go_wp2_with fail
    have hRd := HT.out.rdRow (E := bE) (n := 0) 0 rfl rfl (by simp) (b8cs_held (bs ++ [0])) (by simp [bE]; omega) (Nat.zero_le _) (by decide)
    have hRd2 : RdSl bE W12 (fun _ => True) (.slice A10 (bs ++ [0]).length c11) (bs ++ [0]) := by rw [show (bs ++ ([0] : List UInt8)).length = bs.length + 1 by simp]; exact hRd.keep (by decide) (fun _ _ _ => ⟨trivial, rfl⟩)
    clear hRd
    have GD := decode_any _ _ _ (bs ++ [0]) W12 (Hu.out.below HT.out.below) hRd2
    unfold DecD at GD
    rw [HD3.out] at GD
    dsimp only [okL, errL, List.length] at GD
    rw [show (bs ++ ([0] : List UInt8)).length = bs.length + 1 by simp] at GD
    have HGD := Lib.hid GD
    clear GD hRd2
    refine (HGD.out).mono ?_
    rintro en W13 ⟨A6, d6, rfl, -, hb⟩
    clear r_q q_q r_p q_p z_q z_p
    obtain ⟨T', K'⟩ := HT.out.call hb
    replace T' : St w.heap.size w W13 [.row w.heap.size 5 1 (.slice A10 (bs.length + 1) c11) (bs.length + 1) (cat (b8cs (bs ++ [0]))), .blk W8.heap.size #[.slice A5 0 d5] 26, .blk W5.heap.size #[.slice A3 3 d3] 26, .blk W2.heap.size #[.slice B1 3 d1] 26] := T'
    replace K' : Keeps W12 [.row w.heap.size 5 1 (.slice A10 (bs.length + 1) c11) (bs.length + 1) (cat (b8cs (bs ++ [0]))), .blk W8.heap.size #[.slice A5 0 d5] 26, .blk W5.heap.size #[.slice A3 3 d3] 26, .blk W2.heap.size #[.slice B1 3 d1] 26] W13 [.row w.heap.size 5 1 (.slice A10 (bs.length + 1) c11) (bs.length + 1) (cat (b8cs (bs ++ [0]))), .blk W8.heap.size #[.slice A5 0 d5] 26, .blk W5.heap.size #[.slice A3 3 d3] 26, .blk W2.heap.size #[.slice B1 3 d1] 26] := K'
    replace HT := Lib.hid T'
    replace Hp : Hid (RdSl pgE W13 (Fr w.heap.size [.row w.heap.size 5 1 (.slice A10 (bs.length + 1) c11) (bs.length + 1) (cat (b8cs (bs ++ [0]))), .blk W8.heap.size #[.slice A5 0 d5] 26, .blk W5.heap.size #[.slice A3 3 d3] 26, .blk W2.heap.size #[.slice B1 3 d1] 26]) (.slice B1 3 d1) ps) := Lib.hid (Hp.out.move (by decide) K')
    replace Hb : Hid (RdSl bE W13 (Fr w.heap.size [.row w.heap.size 5 1 (.slice A10 (bs.length + 1) c11) (bs.length + 1) (cat (b8cs (bs ++ [0]))), .blk W8.heap.size #[.slice A5 0 d5] 26, .blk W5.heap.size #[.slice A3 3 d3] 26, .blk W2.heap.size #[.slice B1 3 d1] 26]) (.slice (some ⟨bb, bo, none⟩) bs.length d2) bs) := Lib.hid (Hb.out.move (by decide) K')
    replace Hq : Hid (RdSl pgE W13 (Fr w.heap.size [.row w.heap.size 5 1 (.slice A10 (bs.length + 1) c11) (bs.length + 1) (cat (b8cs (bs ++ [0]))), .blk W8.heap.size #[.slice A5 0 d5] 26, .blk W5.heap.size #[.slice A3 3 d3] 26, .blk W2.heap.size #[.slice B1 3 d1] 26]) (.slice A3 3 d3) ps) := Lib.hid (Hq.out.move (by decide) K')
    replace Hc : Hid (RdSl bE W13 (Fr w.heap.size [.row w.heap.size 5 1 (.slice A10 (bs.length + 1) c11) (bs.length + 1) (cat (b8cs (bs ++ [0]))), .blk W8.heap.size #[.slice A5 0 d5] 26, .blk W5.heap.size #[.slice A3 3 d3] 26, .blk W2.heap.size #[.slice B1 3 d1] 26]) (.slice B4 bs.length d4) bs) := Lib.hid (Hc.out.move (by decide) K')
    clear T' K'
    replace hz : w.heap.size ≤ W13.heap.size := Nat.le_trans hz hb.size
    clear hb
    obtain ⟨-, -, r_q, q_q, r_p, q_p, -⟩ := HT.out.rules
    have z_q : W5.heap.size < W13.heap.size := (HT.out.in_ 2 rfl rfl).2
    have z_p : W2.heap.size < W13.heap.size := (HT.out.in_ 3 rfl rfl).2
    clear HGD
    go_upto_region 9 with fail
    obtain ⟨T', K'⟩ := HT.out.new' #[.slice A6 0 d6] 26 W13.heap.size (by first | (simp; done) | rfl)
    replace T' : St w.heap.size w ((W13.alloc (.cells #[.slice A6 0 d6] 26))) [.blk W13.heap.size #[.slice A6 0 d6] 26, .row w.heap.size 5 1 (.slice A10 (bs.length + 1) c11) (bs.length + 1) (cat (b8cs (bs ++ [0]))), .blk W8.heap.size #[.slice A5 0 d5] 26, .blk W5.heap.size #[.slice A3 3 d3] 26, .blk W2.heap.size #[.slice B1 3 d1] 26] := T'
    replace K' : Keeps W13 [.row w.heap.size 5 1 (.slice A10 (bs.length + 1) c11) (bs.length + 1) (cat (b8cs (bs ++ [0]))), .blk W8.heap.size #[.slice A5 0 d5] 26, .blk W5.heap.size #[.slice A3 3 d3] 26, .blk W2.heap.size #[.slice B1 3 d1] 26] ((W13.alloc (.cells #[.slice A6 0 d6] 26))) [.blk W13.heap.size #[.slice A6 0 d6] 26, .row w.heap.size 5 1 (.slice A10 (bs.length + 1) c11) (bs.length + 1) (cat (b8cs (bs ++ [0]))), .blk W8.heap.size #[.slice A5 0 d5] 26, .blk W5.heap.size #[.slice A3 3 d3] 26, .blk W2.heap.size #[.slice B1 3 d1] 26] := K'
    replace HT := Lib.hid T'
    replace Hp : Hid (RdSl pgE ((W13.alloc (.cells #[.slice A6 0 d6] 26))) (Fr w.heap.size [.blk W13.heap.size #[.slice A6 0 d6] 26, .row w.heap.size 5 1 (.slice A10 (bs.length + 1) c11) (bs.length + 1) (cat (b8cs (bs ++ [0]))), .blk W8.heap.size #[.slice A5 0 d5] 26, .blk W5.heap.size #[.slice A3 3 d3] 26, .blk W2.heap.size #[.slice B1 3 d1] 26]) (.slice B1 3 d1) ps) := Lib.hid (Hp.out.move (by decide) K')
    replace Hb : Hid (RdSl bE ((W13.alloc (.cells #[.slice A6 0 d6] 26))) (Fr w.heap.size [.blk W13.heap.size #[.slice A6 0 d6] 26, .row w.heap.size 5 1 (.slice A10 (bs.length + 1) c11) (bs.length + 1) (cat (b8cs (bs ++ [0]))), .blk W8.heap.size #[.slice A5 0 d5] 26, .blk W5.heap.size #[.slice A3 3 d3] 26, .blk W2.heap.size #[.slice B1 3 d1] 26]) (.slice (some ⟨bb, bo, none⟩) bs.length d2) bs) := Lib.hid (Hb.out.move (by decide) K')
    replace Hq : Hid (RdSl pgE ((W13.alloc (.cells #[.slice A6 0 d6] 26))) (Fr w.heap.size [.blk W13.heap.size #[.slice A6 0 d6] 26, .row w.heap.size 5 1 (.slice A10 (bs.length + 1) c11) (bs.length + 1) (cat (b8cs (bs ++ [0]))), .blk W8.heap.size #[.slice A5 0 d5] 26, .blk W5.heap.size #[.slice A3 3 d3] 26, .blk W2.heap.size #[.slice B1 3 d1] 26]) (.slice A3 3 d3) ps) := Lib.hid (Hq.out.move (by decide) K')
    replace Hc : Hid (RdSl bE ((W13.alloc (.cells #[.slice A6 0 d6] 26))) (Fr w.heap.size [.blk W13.heap.size #[.slice A6 0 d6] 26, .row w.heap.size 5 1 (.slice A10 (bs.length + 1) c11) (bs.length + 1) (cat (b8cs (bs ++ [0]))), .blk W8.heap.size #[.slice A5 0 d5] 26, .blk W5.heap.size #[.slice A3 3 d3] 26, .blk W2.heap.size #[.slice B1 3 d1] 26]) (.slice B4 bs.length d4) bs) := Lib.hid (Hc.out.move (by decide) K')
    clear T' K'
    replace hz : w.heap.size ≤ ((W13.alloc (.cells #[.slice A6 0 d6] 26))).heap.size := Nat.le_trans hz (by simp)
    clear r_q q_q r_p q_p z_q z_p
    generalize (W13.alloc (.cells #[.slice A6 0 d6] 26)) = W14 at *
    obtain ⟨-, -, -, -, r_q, q_q, r_p, q_p, -⟩ := HT.out.rules
    have z_q : W5.heap.size < W14.heap.size := (HT.out.in_ 3 rfl rfl).2
    have z_p : W2.heap.size < W14.heap.size := (HT.out.in_ 4 rfl rfl).2
    have c1 := conv_rd Hb.out
    have c2 := conv_rd Hc.out
    have GQ := equalP_eq _ _ B1 A3 d1 d3 ps W14 (by rw [h3]; exact Hp.out) (by rw [h3]; exact Hq.out)
    rw [h3] at GQ
    have HGQ := Lib.hid GQ
    clear GQ
    go_wp2_with fail
    refine HGQ.out.mono ?_
    rintro en W' ⟨rfl, qn, rfl⟩
    go_wp2_with fail
    go_ret
    exact ⟨rfl, below_drewN HT.out.below qn⟩

theorem lifted (os : Os) (started : os.Started) (H : Type) (enc : TypeId × Value → H) :
    ReturnsInHanded {} Tryd.checked os 10 .any (fun w args => (Rows.programsBackSpec.pre enc Tryd.prog Tryd.f10 [] false w args ∧ laidMetH Tryd.prog Rows.programsBackRow.laid w) ∧ sizedMet enc Tryd.prog Tryd.f10 (OpenSpec.ofChange Rows.programsBackSpec) false w args) (Rows.programsBackSpec.post enc Tryd.prog Tryd.f10 false true false false) := by
  refine returnsInHanded_of_change_and (C := Tryd.checked) (X := fun w _ => laidMetH Tryd.prog Rows.programsBackRow.laid w) (fun _ _ _ hh h => h.of_heap hh) own started (by kernel_rfl) Tryd.func10
    (ChangeSpec.witness_shaped (enc := enc) (C := Tryd.checked) (os := os) (X := fun w _ => laidMetH Tryd.prog Rows.programsBackRow.laid w) false (World.doorLaid Tryd.prog 400 os) #[.slice none 0 0, .int .i64 0] 8 rfl (World.shaped_of_RefB (by kernel_rfl) (by kernel_rfl)) (by kernel_rfl) (by kernel_rfl) (by kernel_rfl) (door_met os _)) ?_
  intro W base args ds gs before hval0 hW _ hsz0 hL _
  have hval : ∀ (j : Nat) t v, Tryd.f10.params[j]? = some t → args[j]? = some v → Value.okWide Tryd.prog W .any base t v := hval0
  have hsz : (DataW.weightsEach Tryd.prog (Tryd.f10.params.toList ++ Rows.programsBackSpec.plain.varTypes Tryd.prog) (ds ++ gs)).all (· ≤ reachBytes) = true := hsz0
  have hW' := hW
  obtain ⟨p, q, hA0, hV, rfl, hfz, hnd⟩ := hW
  have hA : DataW.TrodAll enc Tryd.prog W 0 (fun _ => true) true Tryd.f10.params.toList args.toList ds p := hA0
  rw [Tryd.params10] at hA hval hsz
  obtain ⟨v0, vs0, d0, ds0, p0, q0, hargs, rfl, rfl, h0, r0⟩ := trodAll_cons hA
  obtain ⟨v1, vs1, d1, ds1, p1, q1, rfl, rfl, rfl, h1, r1⟩ := trodAll_cons r0
  obtain ⟨rfl, rfl, rfl⟩ := trodAll_nil r1
  obtain rfl : args = #[v0, v1] := by cases args; simp_all
  obtain ⟨rfl, rfl⟩ := trodVars_none hV
  obtain ⟨x0, A0, c0, rfl, y0⟩ := arg_rs h0 (hval 0 22 v0 rfl rfl) (sized_at hsz (j := 0) rfl rfl)
  obtain ⟨a1, rfl, -, -, w1⟩ := open_int Tryd.underlying3 (hval 1 3 v1 rfl rfl) h1
  clear hA0 hval0 hsz0
  refine (walk W x0 A0 c0 y0 a1 (wf_i64_range w1) (uses_of hL)).mono fun e W' ⟨he, hb⟩ => ?_
  subst he
  exact ⟨_, rfl, law_post (tb := 4) laidOut Tryd.underlying4 (by kernel_rfl) (by rw [Tryd.params10]; exact all_types (by kernel_rfl)) rfl hW' rfl hb⟩

theorem closed : joinedFacts Tryd.prog 10 Tryd.f10 Rows.programsBackSpec Rows.programsBackRow = true :=
  facts_of (by kernel_rfl) laidOut fact_rowed (by kernel_rfl) (by kernel_rfl) (by kernel_rfl) fact_stops (by kernel_rfl) fact_knobs (by kernel_rfl) (by kernel_rfl) (by kernel_rfl) (by kernel_rfl) (by kernel_rfl) (by kernel_rfl) (by kernel_rfl) (by kernel_rfl) (by kernel_rfl) (by kernel_rfl) (by kernel_rfl) (by kernel_rfl) (by kernel_rfl) (by kernel_rfl) (by kernel_rfl) fact_heard fact_may (by rw [fact_lifts]; rfl) fact_make ⟨rfl, rfl⟩ (by kernel_rfl) (by kernel_rfl) (by kernel_rfl)
theorem over : Rows.programsBackRow.holds Tryd.pinned (OpenSpec.ofChange Rows.programsBackSpec) :=
  OpenClaim.holds_of_wide 10 Tryd.f10 rfl rfl rfl rfl rfl rfl rfl ⟨rfl, rfl, rfl, rfl, rfl⟩ rfl rfl rfl rfl rfl (by kernel_rfl) Tryd.func10 closed
    (of_decide_eq_true (by kernel_rfl)) (by unfold Func.isWrapper; first | (rw [if_pos (by decide +kernel)]; kernel_rfl) | (rw [if_neg (by decide +kernel)]; exact ⟨rfl, rfl⟩))
    (fun os started H enc _ => lifted os started H enc)
/-- THE STATEMENT: the tied card. -/
theorem proved : Rows.ProgramsBackCardSaid := by
  unfold Rows.ProgramsBackCardSaid Rows.programsBackCard
  exact Claim7.holds_tied_plain_at .later [] [.data] true _ _ over (fun _ h => by cases h) (by kernel_rfl) (fun _ h => by cases h) programsBack_row_tie rfl ⟨rfl, rfl⟩ (by kernel_rfl) rfl
    (fun f fn hf hfn => by
      obtain rfl : f = 10 := Option.some.inj ((show Tryd.prog.funcNamed "treadwheel/treadwheelkeep.ProgramsBack" = some 10 by kernel_rfl).symm.trans hf) |>.symm
      obtain rfl : fn = Tryd.f10 := (Option.some.inj (Tryd.func10.symm.trans hfn)).symm
      exact ⟨by kernel_rfl, fun j t ht => by
        rw [Tryd.params10] at ht
        have hm : t ∈ ([22, 3] : List TypeId) := by simpa using Array.mem_of_getElem? ht
        have hall : (([22, 3] : List TypeId).all fun u => !Tryd.prog.wantsStandIn u) = true := by kernel_rfl
        exact (show Tryd.prog.wantsStandIn t = false by simpa using List.all_eq_true.1 hall t hm)⟩)
    (by kernel_rfl)
#print axioms proved
end Go.Proofs.YtabcjdalifhpdaaDoor.lawProgramsBack
