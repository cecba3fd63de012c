/- The walk of heap.Check. No condition beside what is read. -/
import Derived.Test.YtabcjdalifhpdaaDoorHeapA
namespace Go.Proofs.YtabcjdalifhpdaaDoor
open Go.RowKit
theorem all_take_succ {α : Type} {p : α → Bool} {l : List α} {k : Nat} {x : α} (hx : l[k]? = some x) (h : (l.take k).all p = true) (hp : p x = true) : (l.take (k + 1)).all p = true := by
 rw [List.take_add_one, hx]; simp only [List.all_append, h, Option.toList, List.all_cons, List.all_nil, hp, Bool.and_true]
theorem all_not {α : Type} {p : α → Bool} {l : List α} {k : Nat} {x : α} (hx : l[k]? = some x) (hp : p x = false) : l.all p = false := by
 rw [List.all_eq_false]; exact ⟨x, List.mem_of_getElem? hx, by simp [hp]⟩
def checkN (h : Hp) (roots : List V) : Int := if hpB h roots then 0 else 8
set_option maxHeartbeats 4000000 in
theorem check_any (m : Int) (S T : Nat → Prop) (A R : Option Addr) (c d : Nat) (os : List Ob) (rs : List V) (w : World) (ho : RdSl obE w S (.slice A os.length c) os) (hq : RdSl vE w T (.slice R rs.length d) rs) :
  Calls Tryd.prog 91 #[.agg #[.int .i64 m, .slice A os.length c], .slice R rs.length d] w fun e w' => e = .returned (.int .i64 (checkN ⟨m, os⟩ rs)) ∧ Below w.heap.size w w' := by
 obtain ⟨-, h1, h2, h3⟩ := ho.lims;have Ho := Lib.hid ho;have Hq := Lib.hid hq;clear ho hq;have hen := fun (args : Array Value) (W : World) => (enters_of Tryd.func111 (by kernel_rfl) rfl : Enters Tryd.prog 111) args W;by_cases hl : 0 ≤ m ∧ m ≤ 60 ∧ (os.length : Int) ≤ m
 ·obtain ⟨l1, l2, l3⟩ := hl;go_enter Tryd.func91, Tryd.ntmps91
  go_wp2
  go_loopw [7, 28] (fun _ i wr => ∃ k : Nat, k ≤ os.length ∧ i = .int .i64 k ∧ (os.take k).all (obB os.length) = true ∧ Below (w.heap.size + 1) (w.alloc (.cells #[.int .i64 m, .slice A os.length c] 51)) wr) (fun _ i _ => os.length - (intOf i).toNat)
  case atStart => exact ⟨0, by omega, rfl, by simp, Below.refl _ _⟩
  case round =>
   obtain ⟨k, hk, rfl, hall, hb⟩ := hrel;have Hall := Lib.hid hall;clear hall;have hb' : Below w.heap.size w wr := ((Below.refl _ _).alloc (Nat.le_refl _) _).trans (hb.mono (by omega));by_cases hlt : k < os.length
   ·obtain ⟨x, hx⟩ : ∃ x, os[k]? = some x := ⟨os[k], List.getElem?_eq_getElem hlt⟩;obtain ⟨b, o, B, e, rfl, _, hbs, g0, g1, hf⟩ := (Ho.out.below (by decide) hb').at_o hx;have Hx := Lib.hid hx;have Hf := Lib.hid hf;clear hx hf;have hw : w.heap.size + 1 ≤ wr.heap.size := (by have := hb.size; simp at this; omega);have k0 : wr.cell? ⟨w.heap.size, 0, none⟩ = some (.int .i64 m) := (hb.cell (p := ⟨w.heap.size, 0, none⟩) (by simp)).trans (by simp [go_sem]);have k1 : wr.cell? ⟨w.heap.size, 1, none⟩ = some (.slice (some ⟨b, o, none⟩) os.length c) := (hb.cell (p := ⟨w.heap.size, 1, none⟩) (by simp)).trans (by simp [go_sem]);by_cases c1 : x.fields.length ≤ 4
    ·cases c2 : (x.fields.any fun y => !valB os.length y)
     ·have C2 := Lib.hid c2;clear c2;go_wp2_with fail;refine (containsFuncV_is 111 _ _ _ _ _ _ _ _ C2 (Hf.out.below (by decide) (((Below.refl _ _).alloc (Nat.le_refl _) _))) (check1_any m _ os.length c w.heap.size _ (cell_al k0 _) (cell_al k1 _)) hen).mono ?_;rintro e w' ⟨rfl, hb1⟩;have q0 : w'.cell? ⟨wr.heap.size, 0, none⟩ = some (.slice B x.fields.length e) := (hb1.cell (p := ⟨wr.heap.size, 0, none⟩) (by simp)).trans (by simp [go_sem]);have hb2 : Below w.heap.size w w' := (hb'.trans (((Below.refl _ _).alloc (Nat.le_refl _) _).mono hb'.size)).trans (hb1.mono (by have := hb'.size; simp; omega));have hb3 : Below (w.heap.size + 1) (w.alloc (.cells #[.int .i64 m, .slice (some ⟨b, o, none⟩) os.length c] 51)) w' := (hb.trans (((Below.refl _ _).alloc (Nat.le_refl _) _).mono hw)).trans (hb1.mono (by simp; omega));by_cases c3 : 0 < x.fields.length
      all_goals
       cases c4 : x.dead
      all_goals
       have q1 : w'.cell? ⟨wr.heap.size, 1, none⟩ = some (.bool x.dead) := (hb1.cell (p := ⟨wr.heap.size, 1, none⟩) (by simp)).trans (by simp [go_sem]);rw [c4] at q1;have C4 := Lib.hid c4;clear c4;go_wp2
      ·go_roundw
       case rel => exact ⟨k + 1, by omega, by go_num, all_take_succ Hx.out Hall.out (by simp [obB, c1, c3, all_not_any C2.out, C4.out]), hb3⟩
       case measure => simp [intOf]; omega
      ·go_ret
       exact ⟨ret_int (by
        have : hpB ⟨m, os⟩ rs = false := (by simp [hpB, all_not Hx.out (show obB os.length x = false by simp [obB, C4.out, c3])]);simp [checkN, this]), hb2⟩
      ·go_ret
       exact ⟨ret_int (by
        have : hpB ⟨m, os⟩ rs = false := (by simp [hpB, all_not Hx.out (show obB os.length x = false by simp [obB, C4.out, c3])]);simp [checkN, this]), hb2⟩
      ·go_roundw
       case rel => exact ⟨k + 1, by omega, by go_num, all_take_succ Hx.out Hall.out (by simp [obB, c1, c3, all_not_any C2.out, C4.out]), hb3⟩
       case measure => simp [intOf]; omega
     ·have C2 := Lib.hid c2;clear c2;go_wp2_with (refine (containsFuncV_is 111 _ _ _ _ _ _ _ _ C2 (Hf.out.below (by decide) (((Below.refl _ _).alloc (Nat.le_refl _) _))) (check1_any m _ os.length c w.heap.size _ (cell_al k0 _) (cell_al k1 _)) hen).mono ?_; rintro e w' ⟨rfl, hb1⟩)
      go_ret
      exact ⟨ret_int (by
       have : hpB ⟨m, os⟩ rs = false := (by simp [hpB, all_not Hx.out (show obB os.length x = false by simp [obB, any_not C2.out])]);simp [checkN, this]), (hb'.trans (((Below.refl _ _).alloc (Nat.le_refl _) _).mono hb'.size)).trans (hb1.mono (by have := hb'.size; simp; omega))⟩
    ·go_wp2
     go_ret
     exact ⟨ret_int (by
      have : hpB ⟨m, os⟩ rs = false := (by simp [hpB, all_not Hx.out (show obB os.length x = false by simp [obB, c1])]);simp [checkN, this]), hb'.trans (((Below.refl _ _).alloc (Nat.le_refl _) _).mono hb'.size)⟩
   ·have hA : os.all (obB os.length) = true := (by have := Hall.out; rwa [List.take_of_length_le (by omega)] at this);have HA := Lib.hid hA;clear hA;have k0 : wr.cell? ⟨w.heap.size, 0, none⟩ = some (.int .i64 m) := (hb.cell (p := ⟨w.heap.size, 0, none⟩) (by simp)).trans (by simp [go_sem]);have k1 : wr.cell? ⟨w.heap.size, 1, none⟩ = some (.slice A os.length c) := (hb.cell (p := ⟨w.heap.size, 1, none⟩) (by simp)).trans (by simp [go_sem])
    cases c2 : (rs.any fun y => !valB os.length y)
    all_goals
     have C2 := Lib.hid c2;clear c2;go_wp2_with (refine (containsFuncV_is 111 _ _ _ _ _ _ _ _ C2 (Hq.out.below (by decide) hb') (check1_any m _ os.length c w.heap.size _ k0 k1) hen).mono ?_; rintro e w' ⟨rfl, hb1⟩)
     go_ret
    ·exact ⟨ret_int (by
      have : hpB ⟨m, os⟩ rs = true := (by simp only [hpB, HA.out, all_not_any C2.out, limB]; simp [l1, l2, l3]);simp [checkN, this]), hb'.trans (hb1.mono hb'.size)⟩
    ·exact ⟨ret_int (by
      have : hpB ⟨m, os⟩ rs = false := (by simp only [hpB, any_not C2.out, Bool.and_false]);simp [checkN, this]), hb'.trans (hb1.mono hb'.size)⟩
 ·have hL : hpB ⟨m, os⟩ rs = false := by
   have : limB ⟨m, os⟩ = false := (by simp only [limB, Bool.and_eq_false_iff, decide_eq_false_iff_not]; omega);simp [hpB, this]
  have HL := Lib.hid hL;clear hL;go_enter Tryd.func91, Tryd.ntmps91
  go_wp2
  all_goals first
   | (exfalso; omega)
   | (go_ret; exact ⟨ret_int (by simp [checkN, HL.out]), (Below.refl _ _).alloc (Nat.le_refl _) _⟩)
end Go.Proofs.YtabcjdalifhpdaaDoor
