/- The walks of code.Check and what it calls, over the table of operators, and of the document's answer to it. Condition: the table holds what the program's text lays there. -/
import Derived.Test.YtabcjdalifhpdaaDoorUsesAt
import Derived.Test.YtabcjdalifhpdaaDoorHeapA
import Derived.Test.YtabcjdalifhpdaaDoorLoc
import Derived.Deep.CutRange
import Derived.Deep.Light
namespace Go.Proofs.YtabcjdalifhpdaaDoor
open Go.RowKit
set_option maxHeartbeats 1000000 in
theorem bounds_any (op : Int) (w : World) : Calls Tryd.prog 118 #[.int .i64 op] w fun e w' => e = .returned (.tuple #[.int .i64 (lowN op), .int .i64 (highN op)]) ∧ w = w' := by
 go_enter Tryd.func118, Tryd.ntmps118
 go_wp2
 all_goals
  refine bodyPost_ret (v := .tuple #[.int .i64 (lowN op), .int .i64 (highN op)]) ?_ rfl ⟨rfl, rfl⟩;simp_all [results, Tryd.results118, go_sem, lowN, highN] <;> omega
theorem insF_range {kinds len at_ : Int} {i : Ins} (h : i.op < 0 ∨ 19 < i.op) : insF kinds len at_ i = 3 := by unfold insF; rw [if_pos h]
theorem uses_six {op : Int} (h : ¬ (op < 0 ∨ 19 < op)) : ∃ u : Int, usesT[op.toNat]? = some u ∧ ((u = 0 ∧ aB op = false ∧ bB op = false ∧ nB op = false) ∨ (u = 1 ∧ aB op = true ∧ bB op = false ∧ nB op = false) ∨ (u = 3 ∧ aB op = true ∧ bB op = true ∧ nB op = false) ∨
  (u = 4 ∧ aB op = false ∧ bB op = false ∧ nB op = true) ∨ (u = 5 ∧ aB op = true ∧ bB op = false ∧ nB op = true) ∨ (u = 7 ∧ aB op = true ∧ bB op = true ∧ nB op = true)) := by
 rcases op_cases h with rfl | rfl | rfl | rfl | rfl | rfl | rfl | rfl | rfl | rfl | rfl | rfl | rfl | rfl | rfl | rfl | rfl | rfl | rfl | rfl <;> exact ⟨_, rfl, by decide⟩
set_option maxHeartbeats 4000000 in
theorem check_op (kinds len at_ : Nat) (P L : Option Addr) (c d : Nat) (i : Ins) (w : World) (hu : UsesAt w) (hl : len ≤ 60) (ha : at_ < len) :
  Calls Tryd.prog 96 #[.agg #[.slice P kinds c], .slice L len d, .int .i64 at_, .agg #[.int .i64 i.op, .int .i64 i.a, .int .i64 i.b, .int .i64 i.n]] w
   fun e w' => e = .returned (.int .i64 (insF kinds len at_ i)) ∧ Below w.heap.size w w' := by
 obtain ⟨op, a, b, n⟩ := i;dsimp only;have hB : ∀ x y z t : Int, Below w.heap.size w ((w.alloc (.cells #[.slice P kinds c] 26)).alloc (.cells #[.int .i64 x, .int .i64 y, .int .i64 z, .int .i64 t] 42)) := fun _ _ _ _ => ((Below.refl _ _).alloc (Nat.le_refl _) _).alloc (by simp) _;by_cases hr : op < 0 ∨ 19 < op
 ·have hE := Lib.hid (insF_range (kinds := kinds) (len := len) (at_ := at_) (i := ⟨op, a, b, n⟩) hr);clear hu;go_enter Tryd.func96, Tryd.ntmps96
  go_wp2_with fail;all_goals (first | (exfalso; omega) | skip)
  all_goals
   go_ret
   exact ⟨ret_int hE.out.symm, hB _ _ _ _⟩
 ·obtain ⟨u, hu1, hu2⟩ := uses_six hr;obtain ⟨k, rfl⟩ := Int.eq_ofNat_of_zero_le (show 0 ≤ op by omega);have cu : ((w.alloc (.cells #[.slice P kinds c] 26)).alloc (.cells #[.int .i64 (k : Int), .int .i64 a, .int .i64 b, .int .i64 n] 42)).cell? ⟨0, k, none⟩ = some (.int .i64 u) := ((hu.alloc _).alloc _) _ _ hu1;have hlt := hu.lt;have k1 : (0 : Int) ≤ k := (by omega);have k2 : (k : Int) < 20 := (by omega);have hb1 : (decide ((k : Int) < 0)) = false := (by simp);have hb2 : (decide ((19 : Int) < (k : Int))) = false := (by simp; omega);have G1 := Lib.hid (fun W => bounds_any (k : Int) W);have hE : insF kinds len at_ ⟨k, a, b, n⟩ = if a < 0 ∨ 8 ≤ a ∨ b < 0 ∨ 8 ≤ b ∨ n < lowN k ∨ highN k < n then 2 else if (aB k = false ∧ a ≠ 0) ∨ (bB k = false ∧ b ≠ 0) then 4 else
   if ((k : Int) = 5 ∨ (k : Int) = 6) ∧ ((at_ : Int) + n < 0 ∨ (len : Int) ≤ (at_ : Int) + n) then 2 else if (k : Int) = 17 ∧ (kinds : Int) ≤ n then 2 else if (at_ : Int) = (len : Int) - 1 ∧ (k : Int) ≠ 0 ∧ (k : Int) ≠ 19 ∧ (k : Int) ≠ 6 then 5 else 0 := by
   unfold insF;rw [if_neg hr]
  have hlo : -1099511627776 ≤ lowN k := by unfold lowN; repeat' split <;> omega
  have hhi : highN k ≤ 1099511627776 := by unfold highN; repeat' split <;> omega
  generalize lowN k = lo at *;generalize highN k = hi at *;generalize insF kinds len at_ ⟨k, a, b, n⟩ = r at *;clear hu hu1 hr;have HE := Lib.hid hE;have HU := Lib.hid hu2;have HL := Lib.hid (((Locs.nil (w := w)).new (cs := #[.slice P kinds c]) (t := 26) rfl).new (cs := #[.int .i64 (k : Int), .int .i64 a, .int .i64 b, .int .i64 n]) (t := 42) (n := w.heap.size + 1) (by simp));have hb := hB (k : Int) a b n;clear hE hu2 hB;go_enter Tryd.func96, Tryd.ntmps96
  go_upto_region 1 with fail;generalize (w.alloc (.cells #[.slice P kinds c] 26)).alloc (.cells #[.int .i64 (k : Int), .int .i64 a, .int .i64 b, .int .i64 n] 42) = W at *;obtain ⟨r7, -, r4, -⟩ := HL.out.rules;dsimp only at r7 r4;go_wp2_with fail;refine (G1.out _).mono ?_;rintro e w' ⟨rfl, rfl⟩;go_upto_region 4 with fail;go_cut [56] from 27 to 56 (fun s wx => s = .bool (decide (a < 0 ∨ 8 ≤ a ∨ b < 0 ∨ 8 ≤ b ∨ n < lo ∨ hi < n)) ∧ wx = W)
  case first =>
   go_wp2_with fail;all_goals
    go_meet
    exact ⟨by congr 1; rw [Bool.eq_iff_iff]; simp; omega, rfl⟩
  case rest =>
  obtain ⟨rfl, hwc⟩ := hcut;rw [hwc];clear hwc;by_cases h2 : a < 0 ∨ 8 ≤ a ∨ b < 0 ∨ 8 ≤ b ∨ n < lo ∨ hi < n
  ·rw [decide_eq_true h2];have hr := HE.out;rw [if_pos h2] at hr;clear h2;go_wp2_with fail;go_ret
   exact ⟨ret_int hr.symm, hb⟩
  rw [decide_eq_false h2];have hE := HE.out;rw [if_neg h2] at hE;have HE := Lib.hid hE;clear hE;go_upto_region 7 with fail;go_cut [78] from 61 to 78 (fun s wx => s = .bool (decide ((aB k = false ∧ a ≠ 0) ∨ (bB k = false ∧ b ≠ 0))) ∧ wx = W)
  case first =>
   rcases HU.out with ⟨rfl, h3, h4, -⟩ | ⟨rfl, h3, h4, -⟩ | ⟨rfl, h3, h4, -⟩ | ⟨rfl, h3, h4, -⟩ | ⟨rfl, h3, h4, -⟩ | ⟨rfl, h3, h4, -⟩
   all_goals
    clear h2;obtain ⟨xa, qa⟩ : ∃ x, (a != 0) = x := ⟨_, rfl⟩;obtain ⟨xb, qb⟩ : ∃ x, (b != 0) = x := ⟨_, rfl⟩
    cases xa <;> cases xb
    all_goals
     go_wp2_with fail;go_meet
     exact ⟨by simp at qa qb; simp [h3, h4, qa, qb], rfl⟩
  case rest =>
  obtain ⟨rfl, hwc⟩ := hcut;rw [hwc];clear hwc;by_cases h3 : (aB k = false ∧ a ≠ 0) ∨ (bB k = false ∧ b ≠ 0)
  ·rw [decide_eq_true h3];have hr := HE.out;rw [if_pos h3] at hr;clear h2 h3;go_wp2_with fail;go_ret
   exact ⟨ret_int hr.symm, hb⟩
  rw [decide_eq_false h3];have hE := HE.out;rw [if_neg h3] at hE;have HE := Lib.hid hE;have n1 : lo ≤ n := (by omega);have n2 : n ≤ hi := (by omega);clear hE h2 h3 HU;go_wp2_with fail;all_goals
   have hr := HE.out;go_ret
   refine ⟨ret_int ?_, hb⟩;rw [hr];clear hr HE;repeat' split
   all_goals (first | rfl | (exfalso; omega) | (exfalso; go_light; simp only [beq_iff_eq, beq_eq_false_iff_ne, ne_eq, bne_iff_ne, bne_eq_false_iff_eq] at *; omega))
end Go.Proofs.YtabcjdalifhpdaaDoor
