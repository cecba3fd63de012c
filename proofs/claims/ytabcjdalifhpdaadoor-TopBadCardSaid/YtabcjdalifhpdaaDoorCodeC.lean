/- The walk of code.Check. Condition: the table of operators holds what the program's text lays there. -/
import Derived.Test.YtabcjdalifhpdaaDoorCodeB
import Derived.Test.YtabcjdalifhpdaaDoorCodeP
namespace Go.Proofs.YtabcjdalifhpdaaDoor
open Go.RowKit
set_option maxRecDepth 100000 in
set_option maxHeartbeats 4000000 in
theorem codeCheck_any (S : Nat → Prop) (A : Option Addr) (c : Nat) (ps : List (List Ins)) (w : World) (hu : UsesAt w) (hr : RdSl (slE insE (by decide)) w S (.slice A ps.length c) ps) :
  Calls Tryd.prog 60 #[.agg #[.slice A ps.length c]] w fun e w' => e = .returned (.int .i64 (progF ps)) ∧ Below w.heap.size w w' := by
 obtain ⟨-, h1, h2, h3⟩ := hr.lims;have Hr := Lib.hid hr;have Hu := Lib.hid hu;have hB : Below w.heap.size w (w.alloc (.cells #[.slice A ps.length c] 26)) := (Below.refl _ _).alloc (Nat.le_refl _) _;have HL := Lib.hid ((Locs.nil (w := w)).new (cs := #[.slice A ps.length c]) (t := 26) rfl);clear hr hu h3;by_cases h0 : ps.length = 0
 ·have e0 : ((ps.length : Int) == 0) = true := (by simp [h0]);have hp : progF ps = 6 := (by unfold progF; rw [if_pos h0]);clear h0;go_enter Tryd.func60, Tryd.ntmps60
  go_wp2_with fail;go_ret
  exact ⟨ret_int hp.symm, hB⟩
 have e0 : ((ps.length : Int) == 0) = false := (by simp only [beq_eq_false_iff_ne, ne_eq]; omega);by_cases h6 : 6 < ps.length
 ·have i6 : (6 : Int) < ps.length := (by omega);have hp : progF ps = 1 := (by unfold progF; rw [if_neg h0, if_pos h6]);go_enter Tryd.func60, Tryd.ntmps60
  go_wp2_with fail;go_ret
  exact ⟨ret_int hp.symm, hB⟩
 have i6 : ¬ (6 : Int) < ps.length := (by omega);go_enter Tryd.func60, Tryd.ntmps60
 go_upto_region 1 with fail;generalize w.alloc (.cells #[.slice A ps.length c] 26) = W at *;obtain ⟨r1, -, -⟩ := HL.out.rules;dsimp only at r1;go_wp2_with fail;go_loopw [19] (fun i wr => ∃ k : Nat, k ≤ ps.length ∧ i = .int .i64 k ∧ firstF ((ps.map (codeF ps.length)).take k) = 0 ∧ Below W.heap.size W wr) (fun i _ => ps.length - (intOf i).toNat)
 case atStart => exact ⟨0, by omega, rfl, rfl, Below.refl _ _⟩
 case round =>
  obtain ⟨k, hk, rfl, hp, hb⟩ := hrel;generalize wr = wo at *;have hB1 := below_after hB hb;by_cases hlt : k < ps.length
  ·obtain ⟨x, hx⟩ : ∃ x, ps[k]? = some x := ⟨ps[k], List.getElem?_eq_getElem hlt⟩;obtain ⟨b, o, B, d, rfl, _, hbs, g0, hl⟩ := (Hr.out.below (by show 0 < 1; omega) hB1).at_s hx;have hw2 := Hu.out.below hB1;obtain ⟨q1, -, -⟩ := (HL.out.after hb).rules;dsimp only at q1;obtain ⟨-, x1, x2, -⟩ := hl.lims;have Hl := Lib.hid hl;have Hx := Lib.hid hx;have Hp := Lib.hid hp;have Hw := Lib.hid hw2;clear hx hp hl hw2;have i1 : (0 : Int) ≤ (k : Int) := (by omega);have i2 : (k : Int) < (ps.length : Int) := (by omega);by_cases y0 : x.length = 0
   ·have f0 : ((x.length : Int) == 0) = true := (by simp [y0]);have hp : progF ps = 1 := progF_at Hx.out h0 (by omega) Hp.out (show codeF ps.length x = 1 by unfold codeF; rw [if_pos (.inl y0)]) (by decide);clear y0;go_wp2_with fail;go_ret
    exact ⟨ret_int hp.symm, hB1⟩
   have f0 : ((x.length : Int) == 0) = false := (by simp only [beq_eq_false_iff_ne, ne_eq]; omega);by_cases y6 : 60 < x.length
   ·have f6 : (60 : Int) < x.length := (by omega);have hp : progF ps = 1 := progF_at Hx.out h0 (by omega) Hp.out (show codeF ps.length x = 1 by unfold codeF; rw [if_pos (.inr y6)]) (by decide);go_wp2_with fail;go_ret
    exact ⟨ret_int hp.symm, hB1⟩
   have f6 : ¬ (60 : Int) < x.length := (by omega);go_wp2_with fail;go_loopw [33] (fun i wz => ∃ j : Nat, j ≤ x.length ∧ i = .int .i64 j ∧ firstF ((rowF ps.length x).take j) = 0 ∧ Below wo.heap.size wo wz) (fun i _ => x.length - (intOf i).toNat)
   case atStart => exact ⟨0, by omega, rfl, rfl, Below.refl _ _⟩
   case round =>
    obtain ⟨j, hj, rfl, hq, hbq⟩ := hrel;have hB2 := below_after hB1 hbq;by_cases hlt2 : j < x.length
    ·obtain ⟨i, hi⟩ : ∃ i, x[j]? = some i := ⟨x[j], List.getElem?_eq_getElem hlt2⟩;obtain ⟨b2, o2, rfl, _, hbs2, c0, c1, c2, c3⟩ := (Hl.out.below (by decide) hbq).at_n hi;obtain ⟨r, hr⟩ : ∃ r, insF ps.length x.length j i = r := ⟨_, rfl⟩;have G := Lib.hid (fun P L c d W (h : UsesAt W) => check_op ps.length x.length j P L c d i W h (by omega) hlt2);rw [hr] at G;obtain ⟨q3, -, q2, -, -⟩ := ((HL.out.after (hb.trans (hbq.mono hb.size))).new (cs := #[.int .i64 i.op, .int .i64 i.a, .int .i64 i.b, .int .i64 i.n]) (t := 42) rfl).rules;dsimp only at q2 q3;have hB3 := hB2.alloc hB2.size (.cells #[.int .i64 i.op, .int .i64 i.a, .int .i64 i.b, .int .i64 i.n] 42);have hbq3 : Below wo.heap.size wo (wr.alloc (.cells #[.int .i64 i.op, .int .i64 i.a, .int .i64 i.b, .int .i64 i.n] 42)) := hbq.alloc hbq.size _;have Hq := Lib.hid hq;have Hi := Lib.hid hi;have HR := Lib.hid hr;clear hq hi hr;have i3 : (0 : Int) ≤ (j : Int) := (by omega);have i4 : (j : Int) < (x.length : Int) := (by omega);go_wp2_with fail;refine (G.out _ _ _ _ _ (Hw.out.below hbq3)).mono ?_;rintro e w4 ⟨rfl, hb4⟩;by_cases hr0 : r = 0
     ·subst hr0;go_wp2_with fail;go_roundw
      case rel => exact ⟨j + 1, by omega, by go_num, firstF_take (by rw [rowF_at Hi.out, HR.out]) Hq.out, below_after hbq3 hb4⟩
      case measure => simp [intOf]; omega
     ·have hne : (r != 0) = true := (by simpa using hr0);have hp : progF ps = r := progF_at Hx.out h0 (by omega) Hp.out (codeF_at Hi.out y0 (by omega) Hq.out HR.out hr0) hr0;go_wp2_with fail;go_ret
      exact ⟨ret_int hp.symm, below_after hB3 hb4⟩
    ·have i4 : ¬ (j : Int) < (x.length : Int) := (by omega);have hjj : (rowF ps.length x).take j = rowF ps.length x := List.take_of_length_le (by rw [rowF_len]; omega);rw [hjj] at hq;have hcode := codeF_end y0 (by omega) hq;go_wp2_with fail;go_roundw
     case rel => exact ⟨k + 1, by omega, by go_num, firstF_take (by rw [kinds_at Hx.out, hcode]) Hp.out, hb.trans (hbq.mono hb.size)⟩
     case measure => simp [intOf]; omega
  ·have i2 : ¬ (k : Int) < (ps.length : Int) := (by omega);have hkk : (ps.map (codeF ps.length)).take k = ps.map (codeF ps.length) := List.take_of_length_le (by simp; omega);rw [hkk] at hp;have Hp0 := Lib.hid (progF_end h0 (by omega) hp);clear hp;go_wp2_with fail;go_ret
   exact ⟨ret_int Hp0.out.symm, hB1⟩
end Go.Proofs.YtabcjdalifhpdaaDoor
