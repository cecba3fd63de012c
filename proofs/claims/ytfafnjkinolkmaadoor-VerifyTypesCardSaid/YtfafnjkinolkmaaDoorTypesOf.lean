/- The walk of treadwheelref.TypesOf. No condition beside what is read. -/
import Derived.Test.YtfafnjkinolkmaaDoorVerOf
namespace Go.Proofs.YtfafnjkinolkmaaDoor
open Go.RowKit

theorem in_is (n low high : Int) (r : Bool) (hr : (decide (low ≤ n) && decide (n ≤ high)) = r) (w : World) : Calls Tryd.prog 41 #[.int .i64 n, .int .i64 low, .int .i64 high] w fun e w' => e = .returned (.bool r) ∧ w = w' := hr ▸ in_any n low high w
set_option maxRecDepth 100000 in
set_option maxHeartbeats 8000000 in
theorem typesOf_any (S : Nat → Prop) (A : Option Addr) (c : Nat) (ps : List (List Ins)) (kd : Int) (w : World) (hr : RdSl pgE w S (.slice A ps.length c) ps) :
    Calls Tryd.prog 23 #[.agg #[.slice A ps.length c], .int .i64 kd] w (TypesD w (typesP ps kd)) := by
  obtain ⟨-, hc1, hc2, hc3⟩ := hr.lims
  have Hr := Lib.hid hr
  clear hr hc3
  have T0 : St w.heap.size w ((w.alloc (.cells #[.slice A ps.length c] 24))) [.blk w.heap.size #[.slice A ps.length c] 24] := ((St.start w (Nat.le_refl _)).new' #[.slice A ps.length c] 24 (w.heap.size) (by simp)).1
  have HT := Lib.hid T0
  have hz : w.heap.size + 1 ≤ (w.alloc (.cells #[.slice A ps.length c] 24)).heap.size := by simp
  clear T0
  replace Hr : Hid (RdSl pgE ((w.alloc (.cells #[.slice A ps.length c] 24))) (Fr 0 [.blk w.heap.size #[.slice A ps.length c] 24]) (.slice A ps.length c) ps) := Lib.hid (RdSl.pool (E := pgE) Hr.out (by show 0 < 1; omega) HT.out)
  go_enter Tryd.func23, Tryd.ntmps23
  go_upto_region 1 with fail
  generalize (w.alloc (.cells #[.slice A ps.length c] 24)) = W1 at *
  obtain ⟨r_p, q_p, -⟩ := HT.out.rules
  have z_p : w.heap.size < W1.heap.size := (HT.out.in_ 0 rfl rfl).2
  by_cases hp : progF ps = 0
  · have hpn : (progF ps != 0) = false := by simpa using hp
    have hpe : (progF ps == 0) = true := by simpa using hp
    have Hp := Lib.hid hp
    have Hok := Lib.hid (progF_fl hp)
    by_cases hkd : 0 ≤ kd ∧ kd < ps.length
    · obtain ⟨k, rfl⟩ := Int.eq_ofNat_of_zero_le hkd.1
      have hkl : k < ps.length := by omega
      obtain ⟨l, hl⟩ : ∃ l, ps[k]? = some l := ⟨ps[k], List.getElem?_eq_getElem hkl⟩
      have Hfl := Lib.hid (Hok.out.2.2 l (List.mem_of_getElem? hl))
      have Hfl1 := Hfl.out.one
      have Hfl6 := Hfl.out.few
      have HL := Lib.hid hl
      have HE := Lib.hid (typesP_ok hp hl)
      have i1 : (0 : Int) ≤ (k : Int) := by omega
      have i2 : (k : Int) < (ps.length : Int) := by omega
      have Hfe := Lib.hid (flowL_eights l)
      have Hfn := Lib.hid (flowL_len (l := l) (by intro h; rw [h] at Hfl1; exact absurd Hfl1 (by decide)))
      clear hl hp hkd
      go_wp2_with fail
      refine (fault_any _ A c ps _ Hr.out).mono ?_
      rintro en W4 ⟨rfl, hb⟩
      clear r_p q_p z_p
      obtain ⟨T', K'⟩ := HT.out.call hb
      replace T' : St w.heap.size w W4 [.blk w.heap.size #[.slice A ps.length c] 24] := T'
      replace K' : Keeps W1 [.blk w.heap.size #[.slice A ps.length c] 24] W4 [.blk w.heap.size #[.slice A ps.length c] 24] := K'
      replace HT := Lib.hid T'
      replace Hr : Hid (RdSl pgE W4 (Fr 0 [.blk w.heap.size #[.slice A ps.length c] 24]) (.slice A ps.length c) ps) := Lib.hid (Hr.out.move (by show 0 < 1; omega) K')
      clear T' K'
      replace hz : w.heap.size + 1 ≤ W4.heap.size := Nat.le_trans hz hb.size
      clear hb
      obtain ⟨r_p, q_p, -⟩ := HT.out.rules
      have z_p : w.heap.size < W4.heap.size := (HT.out.in_ 0 rfl rfl).2
      go_wp2_with fail
      refine (in_is _ _ _ true (by simp; omega) _).mono ?_
      rintro en W' ⟨rfl, rfl⟩
      obtain ⟨fb, fo, lb, lc, rfl, _, _, y0, hrl⟩ := Hr.out.at_s HL.out
      have Hrl := Lib.hid hrl
      clear hrl
      replace Hrl : Hid (RdSl insE W4 (Fr 0 [.blk w.heap.size #[.slice (some ⟨fb, fo, none⟩) ps.length c] 24]) (.slice lb l.length lc) l) := Hrl
      clear r_p q_p z_p
      obtain ⟨r_p, q_p, -⟩ := HT.out.rules
      have z_p : w.heap.size < W4.heap.size := (HT.out.in_ 0 rfl rfl).2
      go_wp2_with fail
      refine (flowOf_any _ lb lc l Hfl.out _ Hrl.out).mono ?_
      rintro en W5 ⟨Aa, ca, rfl, hra, hb⟩
      clear r_p q_p z_p
      have Hfresh := Lib.hid (HT.out)
      have hzo : w.heap.size ≤ W4.heap.size := by omega
      obtain ⟨T', K'⟩ := HT.out.call hb
      replace T' : St w.heap.size w W5 [.blk w.heap.size #[.slice (some ⟨fb, fo, none⟩) ps.length c] 24] := T'
      replace K' : Keeps W4 [.blk w.heap.size #[.slice (some ⟨fb, fo, none⟩) ps.length c] 24] W5 [.blk w.heap.size #[.slice (some ⟨fb, fo, none⟩) ps.length c] 24] := K'
      replace HT := Lib.hid T'
      replace Hr : Hid (RdSl pgE W5 (Fr 0 [.blk w.heap.size #[.slice (some ⟨fb, fo, none⟩) ps.length c] 24]) (.slice (some ⟨fb, fo, none⟩) ps.length c) ps) := Lib.hid (Hr.out.move (by show 0 < 1; omega) K')
      replace Hrl : Hid (RdSl insE W5 (Fr 0 [.blk w.heap.size #[.slice (some ⟨fb, fo, none⟩) ps.length c] 24]) (.slice lb l.length lc) l) := Lib.hid (Hrl.out.move (by decide) K')
      clear T' K'
      replace hz : w.heap.size + 1 ≤ W5.heap.size := Nat.le_trans hz hb.size
      clear hb
      have Ha : Hid (RdSl liE W5 (Fr w.heap.size [.blk w.heap.size #[.slice (some ⟨fb, fo, none⟩) ps.length c] 24]) (.slice Aa l.length ca) (flowL l)) := Lib.hid (hra.fresh (by first | decide | (show 0 < 1; omega)) Hfresh.out hzo)
      clear hra
      clear Hfresh hzo
      obtain ⟨r_p, q_p, -⟩ := HT.out.rules
      have z_p : w.heap.size < W5.heap.size := (HT.out.in_ 0 rfl rfl).2
      clear y0
      go_wp2_with fail
      go_ret2
      unfold TypesD
      rw [HE.out]
      exact ⟨Aa, ca, by show _ = Ending.returned (.tuple #[.slice Aa (flowL l).length ca, .int .i64 0]); rw [Hfn.out]; rfl, by rw [Hfn.out]; exact RdSl.from_ (E := liE) Ha.out (by show 0 < 1; omega), HT.out.below⟩
    · have HE := Lib.hid (typesP_none hp (by omega : ¬ (0 ≤ kd ∧ kd < ps.length)))
      clear hp
      go_wp2_with fail
      refine (fault_any _ A c ps _ Hr.out).mono ?_
      rintro en W3 ⟨rfl, hb⟩
      clear r_p q_p z_p
      obtain ⟨T', K'⟩ := HT.out.call hb
      replace T' : St w.heap.size w W3 [.blk w.heap.size #[.slice A ps.length c] 24] := T'
      replace K' : Keeps W1 [.blk w.heap.size #[.slice A ps.length c] 24] W3 [.blk w.heap.size #[.slice A ps.length c] 24] := K'
      replace HT := Lib.hid T'
      replace Hr : Hid (RdSl pgE W3 (Fr 0 [.blk w.heap.size #[.slice A ps.length c] 24]) (.slice A ps.length c) ps) := Lib.hid (Hr.out.move (by show 0 < 1; omega) K')
      clear T' K'
      replace hz : w.heap.size + 1 ≤ W3.heap.size := Nat.le_trans hz hb.size
      clear hb
      obtain ⟨r_p, q_p, -⟩ := HT.out.rules
      have z_p : w.heap.size < W3.heap.size := (HT.out.in_ 0 rfl rfl).2
      go_wp2_with fail
      refine (in_is _ _ _ false (by simp; omega) _).mono ?_
      rintro en W' ⟨rfl, rfl⟩
      clear hkd
      go_wp2_with fail
      go_ret2
      unfold TypesD
      rw [HE.out]
      exact ⟨none, 0, rfl, rdl_nil, HT.out.below⟩
  · have HE := Lib.hid (typesP_bad (kd := kd) hp)
    have hpn : (progF ps != 0) = true := by simpa using hp
    have hpe : (progF ps == 0) = false := by simpa using hp
    clear hp
    go_wp2_with fail
    refine (fault_any _ A c ps _ Hr.out).mono ?_
    rintro en W2 ⟨rfl, hb⟩
    clear r_p q_p z_p
    obtain ⟨T', K'⟩ := HT.out.call hb
    replace T' : St w.heap.size w W2 [.blk w.heap.size #[.slice A ps.length c] 24] := T'
    replace K' : Keeps W1 [.blk w.heap.size #[.slice A ps.length c] 24] W2 [.blk w.heap.size #[.slice A ps.length c] 24] := K'
    replace HT := Lib.hid T'
    replace Hr : Hid (RdSl pgE W2 (Fr 0 [.blk w.heap.size #[.slice A ps.length c] 24]) (.slice A ps.length c) ps) := Lib.hid (Hr.out.move (by show 0 < 1; omega) K')
    clear T' K'
    replace hz : w.heap.size + 1 ≤ W2.heap.size := Nat.le_trans hz hb.size
    clear hb
    obtain ⟨r_p, q_p, -⟩ := HT.out.rules
    have z_p : w.heap.size < W2.heap.size := (HT.out.in_ 0 rfl rfl).2
    go_wp2_with fail
    go_ret2
    unfold TypesD
    rw [HE.out]
    exact ⟨none, 0, rfl, rdl_nil, HT.out.below⟩
end Go.Proofs.YtfafnjkinolkmaaDoor
