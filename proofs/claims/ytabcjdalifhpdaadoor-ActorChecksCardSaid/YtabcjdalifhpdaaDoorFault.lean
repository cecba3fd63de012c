/- The walks of the document's words on operators: what one has, and the bounds of N. Condition: numbers small enough for the sums. The walk of the document's check of a program. No condition beside what is read. -/
import Derived.Test.YtabcjdalifhpdaaDoorSpecC
import Derived.Test.YtabcjdalifhpdaaDoorHeapA
import Derived.Test.YtabcjdalifhpdaaDoorLoc
import Derived.Deep.CutRange
import Derived.Deep.Light
import Derived.Test.YtabcjdalifhpdaaDoorCodeP
namespace Go.Proofs.YtabcjdalifhpdaaDoor
section
open Go.RowKit
theorem in_at (n l h : Int) (b : Bool) (hb : Hid ((decide (l ≤ n) && decide (n ≤ h)) = b)) (w : World) :
    Calls Tryd.prog 72 #[.int .i64 n, .int .i64 l, .int .i64 h] w fun e w' => e = .returned (.bool b) ∧ w = w' :=
  (in_any n l h w).mono fun _ _ ⟨he, h⟩ => ⟨by rw [he, hb.out], h⟩
set_option maxHeartbeats 1000000 in
theorem hasA_any (op : Int) (w : World) : Calls Tryd.prog 124 #[.int .i64 op] w fun e w' => e = .returned (.bool (aB op)) ∧ w = w' := by
  obtain ⟨x, hx⟩ : ∃ x, (op != 0) = x := ⟨_, rfl⟩
  obtain ⟨y, hy⟩ : ∃ x, (op != 6) = x := ⟨_, rfl⟩
  obtain ⟨z, hz⟩ : ∃ x, (op != 19) = x := ⟨_, rfl⟩
  have hA : aB op = (x && y && z) := by unfold aB; rw [hx, hy, hz]
  rw [hA]
  clear hA
  cases x <;> cases y <;> cases z
  all_goals
    go_enter Tryd.func124, Tryd.ntmps124
    go_wp2_with fail
    go_ret
    exact ⟨rfl, rfl⟩
set_option maxHeartbeats 1000000 in
theorem hasB_any (op : Int) (w : World) : Calls Tryd.prog 125 #[.int .i64 op] w fun e w' => e = .returned (.bool (bB op)) ∧ w = w' := by
  obtain ⟨x, hx⟩ : ∃ x, (decide (2 ≤ op) && decide (op ≤ 4)) = x := ⟨_, rfl⟩
  obtain ⟨y, hy⟩ : ∃ x, (decide (8 ≤ op) && decide (op ≤ 14)) = x := ⟨_, rfl⟩
  obtain ⟨z, hz⟩ : ∃ x, (op == 17) = x := ⟨_, rfl⟩
  have hA : bB op = (x || y || z) := by unfold bB; rw [hx, hy, hz]
  rw [hA]
  have G1 := Lib.hid (fun W => in_at op 2 4 x (Lib.hid hx) W)
  have G2 := Lib.hid (fun W => in_at op 8 14 y (Lib.hid hy) W)
  clear hA hx hy
  cases x <;> cases y <;> cases z
  all_goals
    go_enter Tryd.func125, Tryd.ntmps125
    go_wp2_with fail
    refine (G1.out _).mono ?_
    rintro e w' ⟨rfl, rfl⟩
    go_wp2_with (refine (G2.out _).mono ?_; rintro e w' ⟨rfl, rfl⟩)
    go_ret
    exact ⟨rfl, rfl⟩
set_option maxHeartbeats 4000000 in
theorem nMay_any (i : Ins) (at_ many kinds : Int) (ha : 0 ≤ at_ ∧ at_ ≤ 60) (hm : 0 ≤ many ∧ many ≤ 60) (hk : 0 ≤ kinds ∧ kinds ≤ 60) (w : World) :
    Calls Tryd.prog 123 #[.agg #[.int .i64 i.op, .int .i64 i.a, .int .i64 i.b, .int .i64 i.n], .int .i64 at_, .int .i64 many, .int .i64 kinds] w
      fun e w' => e = .returned (.bool (nMayB i at_ many kinds)) ∧ Below w.heap.size w w' := by
  obtain ⟨op, a, b, n⟩ := i
  dsimp only
  have hB : Below w.heap.size w (w.alloc (.cells #[.int .i64 op, .int .i64 a, .int .i64 b, .int .i64 n] 42)) := (Below.refl _ _).alloc (Nat.le_refl _) _
  have HL := Lib.hid ((Locs.nil (w := w)).new (cs := #[.int .i64 op, .int .i64 a, .int .i64 b, .int .i64 n]) (t := 42) rfl)
  go_enter Tryd.func123, Tryd.ntmps123
  go_upto_region 1 with fail
  generalize w.alloc (.cells #[.int .i64 op, .int .i64 a, .int .i64 b, .int .i64 n] 42) = W at *
  obtain ⟨r4, -, -⟩ := HL.out.rules
  dsimp only at r4
  go_wp2_with (refine (in_any _ _ _ _).mono ?_; rintro e w' ⟨rfl, rfl⟩)
  all_goals
    go_ret
    refine ⟨ret_bool ?_, hB⟩
    go_light
    simp only [nMayB]
    simp only [beq_iff_eq, beq_eq_false_iff_ne, ne_eq] at *
    repeat' split
    all_goals (first | rfl | (exfalso; omega) | (simp_all; done) | (simp_all; omega))
end
section
open Go.RowKit
def C2F (i : Ins) : Prop := (i.n < -60 ∨ 60 < i.n) ∨ (i.op = 17 ∧ (i.n < 0 ∨ 5 < i.n))
def C3F (i : Ins) : Prop := (i.a < 0 ∨ 7 < i.a) ∨ (i.b < 0 ∨ 7 < i.b) ∨ nMayB ⟨i.op, i.a, i.b, if farN i then 0 else i.n⟩ 0 1 1 = false
def C4F (i : Ins) : Prop := (aB i.op = false ∧ i.a ≠ 0) ∨ (bB i.op = false ∧ i.b ≠ 0)
def C6F (len at_ : Int) (i : Ins) : Prop := at_ + 1 = len ∧ i.op ≠ 0 ∧ i.op ≠ 19 ∧ i.op ≠ 6
open Classical in
theorem refF_is (kinds len at_ : Int) (i : Ins) : refF kinds len at_ i = if i.op < 0 ∨ 19 < i.op then 3 else if farN i = true ∧ C2F i then 2 else if C3F i then 2 else if C4F i then 4 else if nMayB i at_ len kinds = false then 2 else if C6F len at_ i then 5 else 0 := by
  unfold refF C2F C3F C4F C6F
  congr

set_option maxRecDepth 100000 in
set_option maxHeartbeats 8000000 in
open Classical in
theorem fault_any (S : Nat → Prop) (A : Option Addr) (c : Nat) (ps : List (List Ins)) (w : World) (hr : RdSl (slE insE (by decide)) w S (.slice A ps.length c) ps) :
    Calls Tryd.prog 104 #[.agg #[.slice A ps.length c]] w fun e w' => e = .returned (.int .i64 (progF ps)) ∧ Below w.heap.size w w' := by
  obtain ⟨-, h1, h2, h3⟩ := hr.lims
  have Hr := Lib.hid hr
  have hB : Below w.heap.size w (w.alloc (.cells #[.slice A ps.length c] 26)) := (Below.refl _ _).alloc (Nat.le_refl _) _
  have HL := Lib.hid ((Locs.nil (w := w)).new (cs := #[.slice A ps.length c]) (t := 26) rfl)
  have hz : w.heap.size + 1 = (w.alloc (.cells #[.slice A ps.length c] 26)).heap.size := by simp
  clear hr h3
  by_cases h0 : ps.length = 0
  · have e0 : ((ps.length : Int) == 0) = true := by simp [h0]
    have hp : progF ps = 6 := by unfold progF; rw [if_pos h0]
    clear h0
    go_enter Tryd.func104, Tryd.ntmps104
    go_wp2_with fail
    go_ret
    exact ⟨ret_int hp.symm, hB⟩
  have e0 : ((ps.length : Int) == 0) = false := by simp only [beq_eq_false_iff_ne, ne_eq]; omega
  by_cases h6 : 6 < ps.length
  · have i6 : (6 : Int) < ps.length := by omega
    have hp : progF ps = 1 := by unfold progF; rw [if_neg h0, if_pos h6]
    go_enter Tryd.func104, Tryd.ntmps104
    go_wp2_with fail
    go_ret
    exact ⟨ret_int hp.symm, hB⟩
  have i6 : ¬ (6 : Int) < ps.length := by omega
  go_enter Tryd.func104, Tryd.ntmps104
  go_upto_region 1 with fail
  generalize w.alloc (.cells #[.slice A ps.length c] 26) = W at *
  obtain ⟨r1, -, -⟩ := HL.out.rules
  dsimp only at r1
  go_wp2_with fail
  go_loopw [3] (fun i wr => ∃ k : Nat, k ≤ ps.length ∧ i = .int .i64 k ∧ firstF ((ps.map (codeF ps.length)).take k) = 0 ∧ Below W.heap.size W wr) (fun i _ => ps.length - (intOf i).toNat)
  case atStart => exact ⟨0, by omega, rfl, rfl, Below.refl _ _⟩
  case round =>
    obtain ⟨k, hk, rfl, hp, hb⟩ := hrel
    generalize wr = wo at *
    have hB1 := below_after hB hb
    obtain ⟨q1, -, -⟩ := (HL.out.after hb).rules
    dsimp only at q1
    by_cases hlt : k < ps.length
    · obtain ⟨x, hx⟩ : ∃ x, ps[k]? = some x := ⟨ps[k], List.getElem?_eq_getElem hlt⟩
      obtain ⟨pb, po, B, d, rfl, _, hbs, g0, hl⟩ := (Hr.out.below (by show 0 < 1; omega) hB1).at_s hx
      obtain ⟨-, x1, x2, -⟩ := hl.lims
      have Hl := Lib.hid hl
      have Hx := Lib.hid hx
      have Hp := Lib.hid hp
      clear hx hp hl
      have i1 : (0 : Int) ≤ (k : Int) := by omega
      have i2 : (k : Int) < (ps.length : Int) := by omega
      by_cases y0 : x.length = 0 ∨ 60 < x.length
      · have E0 := Lib.hid (show (decide ((1 : Int) ≤ x.length) && decide ((x.length : Int) ≤ 60)) = false by simp; omega)
        have hp : progF ps = 1 := progF_at Hx.out h0 (by omega) Hp.out (show codeF ps.length x = 1 by unfold codeF; rw [if_pos y0]) (by decide)
        clear y0
        go_wp2_with fail
        refine (in_at _ _ _ _ E0 _).mono ?_
        rintro e w' ⟨rfl, rfl⟩
        go_wp2_with fail
        go_ret
        exact ⟨ret_int hp.symm, hB1⟩
      have y1 : x.length ≠ 0 := fun e => y0 (.inl e)
      have y6 : x.length ≤ 60 := by omega
      have E0 := Lib.hid (show (decide ((1 : Int) ≤ x.length) && decide ((x.length : Int) ≤ 60)) = true by simp; omega)
      go_wp2_with fail
      refine (in_at _ _ _ _ E0 _).mono ?_
      rintro e w' ⟨rfl, rfl⟩
      go_wp2_with fail
      go_loopw [5] (fun i wz => ∃ j : Nat, j ≤ x.length ∧ i = .int .i64 j ∧ firstF ((rowF ps.length x).take j) = 0 ∧ Below wo.heap.size wo wz) (fun i _ => x.length - (intOf i).toNat)
      case atStart => exact ⟨0, by omega, rfl, rfl, Below.refl _ _⟩
      case round =>
        obtain ⟨j, hj, rfl, hq, hbq⟩ := hrel
        have hB2 := below_after hB1 hbq
        by_cases hlt2 : j < x.length
        · obtain ⟨i, hi⟩ : ∃ i, x[j]? = some i := ⟨x[j], List.getElem?_eq_getElem hlt2⟩
          obtain ⟨b2, o2, rfl, _, hbs2, c0, c1, c2, c3⟩ := (Hl.out.below (by decide) hbq).at_n hi
          obtain ⟨r, hr⟩ : ∃ r, insF ps.length x.length j i = r := ⟨_, rfl⟩
          have hr' := hr
          rw [← refF_eq, refF_is] at hr'
          have hret : r ≠ 0 → progF ps = r := fun hr0 => progF_at Hx.out h0 (by omega) Hp.out (codeF_at hi y1 y6 hq hr hr0) hr0
          have hnext : r = 0 → firstF ((rowF ps.length x).take (j + 1)) = 0 := fun h => firstF_take (by rw [rowF_at hi, hr, h]) hq
          have Hret := Lib.hid hret
          have Hnext := Lib.hid hnext
          have HR := Lib.hid hr'
          obtain ⟨op, a, b, n⟩ := i
          dsimp only at c0 c1 c2 c3 HR
          have i3 : (0 : Int) ≤ (j : Int) := by omega
          have i4 : (j : Int) < (x.length : Int) := by omega
          have HL1 := Lib.hid ((HL.out.after (hb.trans (hbq.mono hb.size))).new (cs := #[.int .i64 op, .int .i64 a, .int .i64 b, .int .i64 n]) (t := 42) rfl)
          have hs1 := hb.size
          have hs2 := hbq.size
          have hbq1 : Below wr.heap.size wr (wr.alloc (.cells #[.int .i64 op, .int .i64 a, .int .i64 b, .int .i64 n] 42)) := (Below.refl _ _).alloc (Nat.le_refl _) _
          have hz1 : wr.heap.size + 1 = (wr.alloc (.cells #[.int .i64 op, .int .i64 a, .int .i64 b, .int .i64 n] 42)).heap.size := by simp
          clear hq hi hr hr' hret hnext
          go_upto_region 15 with fail
          generalize wr.alloc (.cells #[.int .i64 op, .int .i64 a, .int .i64 b, .int .i64 n] 42) = W1 at *
          obtain ⟨r6, -, r1, -, -⟩ := HL1.out.rules
          dsimp only at r6 r1
          go_wp2_with fail
          refine (in_any op 0 19 _).mono ?_
          rintro e w' ⟨rfl, rfl⟩
          by_cases hop : op < 0 ∨ 19 < op
          · have hr0 := HR.out
            rw [if_pos hop] at hr0
            have hp := Hret.out (by omega)
            have E1 : (decide (0 ≤ op) && decide (op ≤ 19)) = false := by simp; omega
            rw [E1]
            clear hop
            go_wp2_with fail
            go_ret
            exact ⟨ret_int (by rw [hp, ← hr0]), below_after hB2 hbq1⟩
          have hr0 := HR.out
          rw [if_neg hop] at hr0
          have HR := Lib.hid hr0
          have E1 : (decide (0 ≤ op) && decide (op ≤ 19)) = true := by simp; omega
          rw [E1]
          clear hop hr0 E1
          have HL2 := Lib.hid (HL1.out.new (cs := #[.int .i64 op, .int .i64 a, .int .i64 b, .int .i64 n]) (t := 42) rfl)
          have hbq2 : Below wr.heap.size wr (W1.alloc (.cells #[.int .i64 op, .int .i64 a, .int .i64 b, .int .i64 n] 42)) := hbq1.alloc (by omega) _
          have hz2 : W1.heap.size + 1 = (W1.alloc (.cells #[.int .i64 op, .int .i64 a, .int .i64 b, .int .i64 n] 42)).heap.size := by simp
          go_upto_region 18 with fail
          generalize W1.alloc (.cells #[.int .i64 op, .int .i64 a, .int .i64 b, .int .i64 n] 42) = W2 at *
          clear r6 r1 HL1 hbq1
          generalize W1.heap.size = b7 at *
          generalize hb6 : wr.heap.size = b6 at *
          obtain ⟨r7, s7, r6, -, r1, -, -⟩ := HL2.out.rules
          dsimp only at r7 s7 r6 r1
          go_cut [59] from 47 to 59 (fun s wx => s = .bool (farN ⟨op, a, b, n⟩) ∧ wx = W2)
          case first =>
            obtain ⟨y5, h5⟩ : ∃ y, (op == 5) = y := ⟨_, rfl⟩
            obtain ⟨y6, h6⟩ : ∃ y, (op == 6) = y := ⟨_, rfl⟩
            obtain ⟨y7, h7⟩ : ∃ y, (op == 17) = y := ⟨_, rfl⟩
            have hF : farN ⟨op, a, b, n⟩ = (y5 || y6 || y7) := by unfold farN; rw [h5, h6, h7]
            have HF := Lib.hid hF
            clear hF
            cases y5 <;> cases y6 <;> cases y7
            all_goals
              go_wp2_with fail
              go_meet
              exact ⟨by rw [HF.out]; rfl, rfl⟩
          case rest =>
          obtain ⟨rfl, hwc⟩ := hcut
          rw [hwc]
          clear hwc
          go_upto_if 59 with fail
          go_cut [] from 59 to 75 (fun wx => ¬ (farN ⟨op, a, b, n⟩ = true ∧ C2F ⟨op, a, b, n⟩) ∧ Locs wx [(b7, #[.int .i64 op, .int .i64 a, .int .i64 b, .int .i64 (if farN ⟨op, a, b, n⟩ then 0 else n)], 42), (b6, #[.int .i64 op, .int .i64 a, .int .i64 b, .int .i64 n], 42), (w.heap.size, #[.slice (some ⟨pb, po, none⟩) ps.length c], 26)] ∧
              Below b6 wr wx ∧ b7 + 1 ≤ wx.heap.size)
          case first =>
            by_cases hF : farN ⟨op, a, b, n⟩ = true
            · rw [hF]
              have HL3 := Lib.hid (HL2.out.put 0 3 (.int .i64 0) rfl (by simp <;> omega))
              have hbq3 : Below b6 wr (W2.setCell ⟨b7, 3, none⟩ (.int .i64 0)) := hbq2.setCell (p := ⟨b7, 3, none⟩) (by show b6 ≤ b7; omega) _
              have hz3 : (W2.setCell ⟨b7, 3, none⟩ (.int .i64 0)).heap.size = W2.heap.size := by simp
              have hr0 := HR.out
              have HF := Lib.hid hF
              clear hF
              go_upto_region 20 with fail
              generalize W2.setCell ⟨b7, 3, none⟩ (.int .i64 0) = W3 at *
              clear r7 s7 r6 r1
              obtain ⟨r7, s7, r6, -, r1, -, -⟩ := HL3.out.rules
              dsimp only at r7 s7 r6 r1
              go_cut [75] from 61 to 75 (fun s wx => s = .bool (decide (C2F ⟨op, a, b, n⟩)) ∧ wx = W3)
              case first =>
                by_cases g1 : n < -60 ∨ 60 < n
                · have E1 := Lib.hid (show (decide ((-60 : Int) ≤ n) && decide (n ≤ 60)) = false by simp; omega)
                  have hd := Lib.hid (decide_eq_true (show C2F ⟨op, a, b, n⟩ from .inl g1))
                  clear g1
                  go_wp2_with fail
                  refine (in_at _ _ _ _ E1 _).mono ?_
                  rintro e w' ⟨rfl, rfl⟩
                  go_wp2_with fail
                  go_meet
                  exact ⟨by rw [hd.out], rfl⟩
                have E1 := Lib.hid (show (decide ((-60 : Int) ≤ n) && decide (n ≤ 60)) = true by simp; omega)
                by_cases g2 : op = 17
                · have g2b : (op == 17) = true := by simpa using g2
                  by_cases g3 : n < 0 ∨ 5 < n
                  · have E2 := Lib.hid (show (decide ((0 : Int) ≤ n) && decide (n ≤ 5)) = false by simp; omega)
                    have hd := Lib.hid (decide_eq_true (show C2F ⟨op, a, b, n⟩ from .inr ⟨g2, g3⟩))
                    clear g1 g2 g3
                    go_wp2_with fail
                    refine (in_at _ _ _ _ E1 _).mono ?_
                    rintro e w' ⟨rfl, rfl⟩
                    go_wp2_with fail
                    refine (in_at _ _ _ _ E2 _).mono ?_
                    rintro e w' ⟨rfl, rfl⟩
                    go_wp2_with fail
                    go_meet
                    exact ⟨by rw [hd.out], rfl⟩
                  · have E2 := Lib.hid (show (decide ((0 : Int) ≤ n) && decide (n ≤ 5)) = true by simp; omega)
                    have hd := Lib.hid (decide_eq_false (show ¬ C2F ⟨op, a, b, n⟩ from fun h => h.elim g1 (fun h => g3 h.2)))
                    clear g1 g2 g3
                    go_wp2_with fail
                    refine (in_at _ _ _ _ E1 _).mono ?_
                    rintro e w' ⟨rfl, rfl⟩
                    go_wp2_with fail
                    refine (in_at _ _ _ _ E2 _).mono ?_
                    rintro e w' ⟨rfl, rfl⟩
                    go_wp2_with fail
                    go_meet
                    exact ⟨by rw [hd.out], rfl⟩
                · have g2b : (op == 17) = false := by simpa using g2
                  have hd := Lib.hid (decide_eq_false (show ¬ C2F ⟨op, a, b, n⟩ from fun h => h.elim g1 (fun h => g2 h.1)))
                  clear g1 g2
                  go_wp2_with fail
                  refine (in_at _ _ _ _ E1 _).mono ?_
                  rintro e w' ⟨rfl, rfl⟩
                  go_wp2_with fail
                  go_meet
                  exact ⟨by rw [hd.out], rfl⟩
              case rest =>
              obtain ⟨rfl, hwc⟩ := hcut
              rw [hwc]
              clear hwc
              by_cases hC : C2F ⟨op, a, b, n⟩
              · rw [decide_eq_true hC]
                rw [if_pos ⟨HF.out, hC⟩] at hr0
                have Hp := Lib.hid (Hret.out (by omega))
                have Hr0 := Lib.hid hr0
                clear hC hr0
                go_wp2_with fail
                go_ret
                exact ⟨ret_int (by rw [Hp.out, ← Hr0.out]), below_after hB2 (by rw [hb6]; exact hbq3)⟩
              · rw [decide_eq_false hC]
                have HC := Lib.hid hC
                clear hC
                go_wp2_with fail
                go_meet
                refine ⟨fun h => HC.out h.2, ?_, hbq3, by omega⟩
                rw [if_pos HF.out]
                exact HL3.out
            · have hF' : farN ⟨op, a, b, n⟩ = false := by simpa using hF
              have HF := Lib.hid hF'
              rw [hF']
              clear hF hF'
              go_wp2_with fail
              go_meet
              refine ⟨fun h => (by rw [HF.out] at h; cases h.1), ?_, hbq2, by omega⟩
              rw [if_neg (by rw [HF.out]; decide)]
              exact HL2.out
          case rest =>
          obtain ⟨hC2, hL3, hbq3, hz3⟩ := hcut
          have hr0 := HR.out
          rw [if_neg hC2] at hr0
          have HR := Lib.hid hr0
          have HL3 := Lib.hid hL3
          clear hC2 hr0 hL3 r7 s7 r6 r1 HL2
          obtain ⟨r7, s7, r6, -, r1, -, -⟩ := HL3.out.rules
          dsimp only at r7 s7 r6 r1
          have hn' : ∃ n' : Int, (if farN ⟨op, a, b, n⟩ then 0 else n) = n' := ⟨_, rfl⟩
          obtain ⟨n', hn'⟩ := hn'
          have hc3 : C3F ⟨op, a, b, n⟩ ↔ (a < 0 ∨ 7 < a) ∨ (b < 0 ∨ 7 < b) ∨ nMayB ⟨op, a, b, n'⟩ 0 1 1 = false := by
            rw [← hn']
            exact Iff.rfl
          rw [hn'] at r7 HL3
          clear hn'
          have G3 := Lib.hid (fun W => nMay_any ⟨op, a, b, n'⟩ 0 1 1 (by omega) (by omega) (by omega) W)
          obtain ⟨m3, hm3⟩ : ∃ y, nMayB ⟨op, a, b, n'⟩ 0 1 1 = y := ⟨_, rfl⟩
          rw [hm3] at G3 hc3
          clear hm3
          dsimp only at G3
          go_upto_region 22 with fail
          go_cut [90] from 76 to 90 (fun s wx => s = .bool (decide (C3F ⟨op, a, b, n⟩)) ∧ Below wc.heap.size wc wx)
          case first =>
            by_cases g1 : a < 0 ∨ 7 < a
            · have E1 := Lib.hid (show (decide ((0 : Int) ≤ a) && decide (a ≤ 7)) = false by simp; omega)
              have hd := Lib.hid (decide_eq_true (hc3.2 (.inl g1)))
              clear g1 hc3
              go_wp2_with fail
              refine (in_at _ _ _ _ E1 _).mono ?_
              rintro e w' ⟨rfl, rfl⟩
              go_wp2_with fail
              go_meet
              exact ⟨by rw [hd.out], Below.refl _ _⟩
            have E1 := Lib.hid (show (decide ((0 : Int) ≤ a) && decide (a ≤ 7)) = true by simp; omega)
            by_cases g2 : b < 0 ∨ 7 < b
            · have E2 := Lib.hid (show (decide ((0 : Int) ≤ b) && decide (b ≤ 7)) = false by simp; omega)
              have hd := Lib.hid (decide_eq_true (hc3.2 (.inr (.inl g2))))
              clear g1 g2 hc3
              go_wp2_with fail
              refine (in_at _ _ _ _ E1 _).mono ?_
              rintro e w' ⟨rfl, rfl⟩
              go_wp2_with fail
              refine (in_at _ _ _ _ E2 _).mono ?_
              rintro e w' ⟨rfl, rfl⟩
              go_wp2_with fail
              go_meet
              exact ⟨by rw [hd.out], Below.refl _ _⟩
            have E2 := Lib.hid (show (decide ((0 : Int) ≤ b) && decide (b ≤ 7)) = true by simp; omega)
            have hd := Lib.hid (show decide (C3F ⟨op, a, b, n⟩) = !m3 by
              rw [Bool.eq_iff_iff]
              simp only [decide_eq_true_eq, Bool.not_eq_true', hc3]
              exact ⟨fun h => h.elim (fun h => absurd h g1) (fun h => h.elim (fun h => absurd h g2) id), fun h => .inr (.inr h)⟩)
            clear g1 g2 hc3
            cases m3
            all_goals
              go_wp2_with fail
              refine (in_at _ _ _ _ E1 _).mono ?_
              rintro e w' ⟨rfl, rfl⟩
              go_wp2_with fail
              refine (in_at _ _ _ _ E2 _).mono ?_
              rintro e w' ⟨rfl, rfl⟩
              go_wp2_with fail
              refine (G3.out _).mono ?_
              rintro e w' ⟨rfl, hb'⟩
              go_wp2_with fail
              go_meet
              exact ⟨by rw [hd.out]; rfl, hb'⟩
          case rest =>
          obtain ⟨rfl, hb4⟩ := hcut
          have hbq4 : Below b6 wr wc := by rw [← hb6] at hbq3 ⊢; exact below_after hbq3 hb4
          have HL4 := Lib.hid (HL3.out.after hb4)
          have hz4 : b7 + 1 ≤ wc.heap.size := Nat.le_trans hz3 hb4.size
          generalize wc = W4 at *
          clear hb4 r7 s7 r6 r1 hc3 G3
          obtain ⟨r7, s7, r6, -, r1, -, -⟩ := HL4.out.rules
          dsimp only at r7 s7 r6 r1
          have hr0 := HR.out
          by_cases hC : C3F ⟨op, a, b, n⟩
          · rw [decide_eq_true hC]
            rw [if_pos hC] at hr0
            have Hp := Lib.hid (Hret.out (by omega))
            have Hr0 := Lib.hid hr0
            clear hC hr0
            go_wp2_with fail
            go_ret
            exact ⟨ret_int (by rw [Hp.out, ← Hr0.out]), below_after hB2 (by rw [hb6]; exact hbq4)⟩
          rw [decide_eq_false hC]
          rw [if_neg hC] at hr0
          have HR := Lib.hid hr0
          clear hC hr0
          go_upto_region 24 with fail
          go_cut [110] from 91 to 110 (fun s wx => s = .bool (decide (C4F ⟨op, a, b, n⟩)) ∧ wx = W4)
          case first =>
            have G4 := Lib.hid (fun W => hasA_any op W)
            have G5 := Lib.hid (fun W => hasB_any op W)
            have hd := Lib.hid (show decide (C4F ⟨op, a, b, n⟩) = ((!aB op && (a != 0)) || (!bB op && (b != 0))) by
              rw [Bool.eq_iff_iff, decide_eq_true_iff]
              unfold C4F
              simp)
            obtain ⟨xa, qa⟩ : ∃ x, (a != 0) = x := ⟨_, rfl⟩
            obtain ⟨xb, qb⟩ : ∃ x, (b != 0) = x := ⟨_, rfl⟩
            rw [qa, qb] at hd
            generalize aB op = ya at *
            generalize bB op = yb at *
            have hy : (ya = false ∧ xa = true) ∨ ((ya = true ∨ (ya = false ∧ xa = false)) ∧ (yb = true ∨ (yb = false ∧ (xb = true ∨ xb = false)))) := by cases ya <;> cases xa <;> cases yb <;> cases xb <;> decide
            rcases hy with ⟨rfl, rfl⟩ | ⟨rfl | ⟨rfl, rfl⟩, rfl | ⟨rfl, rfl | rfl⟩⟩
            · go_wp2_with fail
              refine (G4.out _).mono ?_
              rintro e w' ⟨rfl, rfl⟩
              go_wp2_with fail
              go_meet
              exact ⟨congrArg Value.bool (hd.out.trans (by simp)).symm, rfl⟩
            all_goals
              go_wp2_with fail
              refine (G4.out _).mono ?_
              rintro e w' ⟨rfl, rfl⟩
              go_wp2_with fail
              refine (G5.out _).mono ?_
              rintro e w' ⟨rfl, rfl⟩
              go_wp2_with fail
              go_meet
              exact ⟨congrArg Value.bool (hd.out.trans (by simp)).symm, rfl⟩
          case rest =>
          obtain ⟨rfl, hwc⟩ := hcut
          rw [hwc]
          clear hwc
          have hr0 := HR.out
          by_cases hC : C4F ⟨op, a, b, n⟩
          · rw [decide_eq_true hC]
            rw [if_pos hC] at hr0
            have Hp := Lib.hid (Hret.out (by omega))
            have Hr0 := Lib.hid hr0
            clear hC hr0
            go_wp2_with fail
            go_ret
            exact ⟨ret_int (by rw [Hp.out, ← Hr0.out]), below_after hB2 (by rw [hb6]; exact hbq4)⟩
          rw [decide_eq_false hC]
          rw [if_neg hC] at hr0
          have G6 := Lib.hid (fun W => nMay_any ⟨op, a, b, n⟩ j x.length ps.length (by omega) (by omega) (by omega) W)
          obtain ⟨m5, hm5⟩ : ∃ y, nMayB ⟨op, a, b, n⟩ j x.length ps.length = y := ⟨_, rfl⟩
          rw [hm5] at G6 hr0
          dsimp only at G6
          have HR := Lib.hid hr0
          clear hC hr0 hm5
          go_wp2_with fail
          refine (G6.out _).mono ?_
          rintro e W5 ⟨rfl, hb5⟩
          have hbq5 : Below b6 wr W5 := by rw [← hb6] at hbq4 ⊢; exact below_after hbq4 hb5
          have HL5 := Lib.hid (HL4.out.after hb5)
          clear r7 s7 r6 r1
          obtain ⟨r7, s7, r6, -, r1, -, -⟩ := HL5.out.rules
          dsimp only at r7 s7 r6 r1
          clear hb5 HL4 G6
          have hr0 := HR.out
          cases m5
          · rw [if_pos rfl] at hr0
            have Hp := Lib.hid (Hret.out (by omega))
            have Hr0 := Lib.hid hr0
            clear hr0
            go_wp2_with fail
            go_ret
            exact ⟨ret_int (by rw [Hp.out, ← Hr0.out]), below_after hB2 (by rw [hb6]; exact hbq5)⟩
          rw [if_neg (by decide)] at hr0
          have HR := Lib.hid hr0
          clear hr0
          go_upto_region 28 with fail
          go_cut [139] from 120 to 139 (fun s wx => s = .bool (decide (C6F x.length j ⟨op, a, b, n⟩)) ∧ wx = W5)
          case first =>
            obtain ⟨y0, q0⟩ : ∃ y, ((j : Int) + 1 == (x.length : Int)) = y := ⟨_, rfl⟩
            obtain ⟨y1, q1⟩ : ∃ y, (op != 0) = y := ⟨_, rfl⟩
            obtain ⟨y2, q2⟩ : ∃ y, (op != 19) = y := ⟨_, rfl⟩
            obtain ⟨y3, q3⟩ : ∃ y, (op != 6) = y := ⟨_, rfl⟩
            have hd := Lib.hid (show decide (C6F x.length j ⟨op, a, b, n⟩) = (y0 && (y1 && (y2 && y3))) by
              rw [← q0, ← q1, ← q2, ← q3, Bool.eq_iff_iff, decide_eq_true_iff]
              unfold C6F
              simp)
            have hy : y0 = false ∨ (y0 = true ∧ (y1 = false ∨ (y1 = true ∧ (y2 = false ∨ (y2 = true ∧ (y3 = false ∨ y3 = true)))))) := by cases y0 <;> cases y1 <;> cases y2 <;> cases y3 <;> decide
            rcases hy with rfl | ⟨rfl, rfl | ⟨rfl, rfl | ⟨rfl, rfl | rfl⟩⟩⟩
            all_goals
              go_wp2_with fail
              go_meet
              exact ⟨congrArg Value.bool (hd.out.trans (by simp)).symm, rfl⟩
          case rest =>
          obtain ⟨rfl, hwc⟩ := hcut
          rw [hwc]
          clear hwc
          have hr0 := HR.out
          by_cases hC : C6F x.length j ⟨op, a, b, n⟩
          · rw [decide_eq_true hC]
            rw [if_pos hC] at hr0
            have Hp := Lib.hid (Hret.out (by omega))
            have Hr0 := Lib.hid hr0
            clear hC hr0
            go_wp2_with fail
            go_ret
            exact ⟨ret_int (by rw [Hp.out, ← Hr0.out]), below_after hB2 (by rw [hb6]; exact hbq5)⟩
          rw [decide_eq_false hC]
          rw [if_neg hC] at hr0
          have Hn := Lib.hid (Hnext.out hr0.symm)
          clear hC hr0
          go_wp2_with fail
          go_roundw
          case rel => exact ⟨j + 1, by omega, by go_num, Hn.out, below_after hbq (by rw [hb6]; exact hbq5)⟩
          case measure => simp [intOf]; omega
        · have i4 : ¬ (j : Int) < (x.length : Int) := by omega
          have hjj : (rowF ps.length x).take j = rowF ps.length x := List.take_of_length_le (by rw [rowF_len]; omega)
          rw [hjj] at hq
          have hcode := codeF_end y1 y6 hq
          go_wp2_with fail
          go_roundw
          case rel => exact ⟨k + 1, by omega, by go_num, firstF_take (by rw [kinds_at Hx.out, hcode]) Hp.out, hb.trans (hbq.mono hb.size)⟩
          case measure => simp [intOf]; omega
    · have i2 : ¬ (k : Int) < (ps.length : Int) := by omega
      have hkk : (ps.map (codeF ps.length)).take k = ps.map (codeF ps.length) := List.take_of_length_le (by simp; omega)
      rw [hkk] at hp
      have Hp0 := Lib.hid (progF_end h0 (by omega) hp)
      clear hp
      go_wp2_with fail
      go_ret
      exact ⟨ret_int Hp0.out.symm, hB1⟩
end
end Go.Proofs.YtabcjdalifhpdaaDoor
