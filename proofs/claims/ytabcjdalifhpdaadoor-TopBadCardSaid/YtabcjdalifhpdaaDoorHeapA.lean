/- The walks of heap.Check and what it calls, and of the document's answer to it: each computes the plain function of SpecH. No condition beside what is read. -/
import Derived.Test.YtabcjdalifhpdaaDoorSpecH
import Derived.Test.YtabcjdalifhpdaaDoorMem
import Derived.Test.YtabcjdalifhpdaaDoorChecked
import Derived.Lib.Hide
import Derived.Shelf.Abstract
import Derived.Deep.QuietTactic
import Derived.BigQuiet
namespace Go.Proofs.YtabcjdalifhpdaaDoor
open Go.RowKit
theorem ret_bool {a b : Bool} (h : a = b) : Ending.returned (.bool a) = Ending.returned (.bool b) := by rw [h]
theorem ret_int {a b : Int} (h : a = b) : Ending.returned (.int .i64 a) = Ending.returned (.int .i64 b) := by rw [h]
theorem any_not {α : Type} {p : α → Bool} {l : List α} (h : (l.any fun y => !p y) = true) : l.all p = false := by
 rw [List.all_eq_not_any_not, h]; rfl
theorem all_not_any {α : Type} {p : α → Bool} {l : List α} (h : (l.any fun y => !p y) = false) : l.all p = true := by
 rw [List.all_eq_not_any_not, h]; rfl
set_option maxHeartbeats 400000 in
theorem in_any (n l h : Int) (w : World) :
  Calls Tryd.prog 72 #[.int .i64 n, .int .i64 l, .int .i64 h] w fun e w' => e = .returned (.bool (decide (l ≤ n) && decide (n ≤ h))) ∧ w = w' := by
 go_enter Tryd.func72, Tryd.ntmps72
 go_wp2
 all_goals
  go_ret
  exact ⟨ret_bool (by simp [*]; try omega), rfl⟩
set_option maxHeartbeats 400000 in
theorem word_any (n : Int) (w : World) :
  Calls Tryd.prog 133 #[.int .i64 n] w fun e w' => e = .returned (.bool (wordB n)) ∧ w = w' := by
 go_enter Tryd.func133, Tryd.ntmps133
 go_wp2
 all_goals
  go_ret
  exact ⟨ret_bool (by simp [wordB, *]; try omega), rfl⟩
set_option maxHeartbeats 400000 in
theorem value_any (m : Int) (A : Option Addr) (n c : Nat) (x : V) (w : World) :
  Calls Tryd.prog 112 #[.agg #[.int .i64 m, .slice A n c], .agg #[.int .i64 x.k, .int .i64 x.n]] w fun e w' => e = .returned (.bool (valB n x)) ∧ Below w.heap.size w w' := by
 obtain ⟨k, y⟩ := x;go_enter Tryd.func112, Tryd.ntmps112
 go_wp2_with (go_at_call 133; refine (word_any _ _).mono ?_; rintro e w' ⟨rfl, rfl⟩)
 all_goals
  go_ret
  refine ⟨ret_bool ?_, ((Below.refl _ _).alloc (Nat.le_refl _) _).alloc (by simp) _⟩;simp_all [valB] <;> omega
def TellsV (F : Nat) (cap : Value) (w : World) (p : V → Bool) : Prop :=
 ∀ (x : V) (W : World), Below w.heap.size w W → Calls Tryd.prog F #[.agg #[.int .i64 x.k, .int .i64 x.n], cap] W fun e W' => e = .returned (.bool (p x)) ∧ Below W.heap.size W W'
def FoundV (p : V → Bool) (l : List V) (w : World) (e : Ending) (w' : World) : Prop := ∃ r : Int, e = .returned (.int .i64 r) ∧ decide (0 ≤ r) = l.any p ∧ Below w.heap.size w w'
theorem any_take_succ {α : Type} {p : α → Bool} {l : List α} {k : Nat} {x : α} (hx : l[k]? = some x) (h : (l.take k).any p = false) (hp : p x = false) : (l.take (k + 1)).any p = false := by
 rw [List.take_add_one, hx]; simp [h, hp]
theorem any_at {α : Type} {p : α → Bool} {l : List α} {k : Nat} {x : α} (hx : l[k]? = some x) (hp : p x = true) : l.any p = true := by
 rw [List.any_eq_true]; exact ⟨x, List.mem_of_getElem? hx, hp⟩
theorem TellsV.gives {F : Nat} {cap : Value} {w W : World} {p : V → Bool} (hf : TellsV F cap w p) (b : Bool) {x : V} (hp : Hid (p x = b)) (hb : Below w.heap.size w W) :
  Calls Tryd.prog F #[.agg #[.int .i64 x.k, .int .i64 x.n], cap] W fun e W' => e = .returned (.bool b) ∧ Below W.heap.size W W' :=
 (hf x W hb).mono fun _ _ ⟨he, h⟩ => ⟨by rw [he, hp.out], h⟩
set_option maxHeartbeats 400000 in
theorem indexFuncV_any (F : Nat) (cap : Value) (p : V → Bool) (S : Nat → Prop) (A : Option Addr) (c : Nat) (l : List V) (w : World) (hr : RdSl vE w S (.slice A l.length c) l) (hf : TellsV F cap w p)
  (hen : ∀ (args : Array Value) (W : World), (callFunc F args).run Tryd.prog W = .ok (.enter F args) W) :
  Calls Tryd.prog 122 #[.slice A l.length c, .func (.func F) #[] #[cap]] w (FoundV p l w) := by
 obtain ⟨-, h1, h2, h3⟩ := hr.lims;have Hr := Lib.hid hr;clear hr;go_enter Tryd.func122, Tryd.ntmps122
 go_wp2
 go_loopw [5, 8] (fun _ i wr => ∃ k : Nat, k ≤ l.length ∧ i = .int .i64 k ∧ (l.take k).any p = false ∧ Below w.heap.size w wr) (fun _ i _ => l.length - (intOf i).toNat)
 case atStart => exact ⟨0, by omega, rfl, by simp, Below.refl _ _⟩
 case round =>
  obtain ⟨k, hk, rfl, hany, hb⟩ := hrel;by_cases hlt : k < l.length
  ·obtain ⟨x, hx⟩ : ∃ x, l[k]? = some x := ⟨l[k], List.getElem?_eq_getElem hlt⟩;obtain ⟨b, o, rfl, _, _, g0, g1⟩ := (Hr.out.below (by decide) hb).at_v hx;have Hany := Lib.hid hany;have Hx := Lib.hid hx;clear hany hx
   cases hp : p x
   all_goals
    have Hp := Lib.hid hp;clear hp;go_wp2_with (refine (hf.gives _ Hp hb).mono ?_; rintro e w' ⟨rfl, hb1⟩)
   ·go_roundw
    case rel => exact ⟨k + 1, by omega, by go_num, any_take_succ Hx.out Hany.out Hp.out, hb.trans (hb1.mono hb.size)⟩
    case measure => simp [intOf]; omega
   ·go_ret
    exact ⟨_, rfl, by simp [any_at Hx.out Hp.out], hb.trans (hb1.mono hb.size)⟩
  ·have Hany := Lib.hid hany;clear hany;go_wp2
   go_ret
   exact ⟨_, rfl, by have := Hany.out; rw [List.take_of_length_le (by omega)] at this; simp [this], hb⟩
set_option maxHeartbeats 400000 in
theorem containsFuncV_any (F : Nat) (cap : Value) (p : V → Bool) (S : Nat → Prop) (A : Option Addr) (c : Nat) (l : List V) (w : World) (hr : RdSl vE w S (.slice A l.length c) l) (hf : TellsV F cap w p)
  (hen : ∀ (args : Array Value) (W : World), (callFunc F args).run Tryd.prog W = .ok (.enter F args) W) :
  Calls Tryd.prog 102 #[.slice A l.length c, .func (.func F) #[] #[cap]] w fun e w' => e = .returned (.bool (l.any p)) ∧ Below w.heap.size w w' := by
 have Hr := Lib.hid hr;clear hr;go_enter Tryd.func102, Tryd.ntmps102
 go_wp2_with (refine (indexFuncV_any F cap p S A c l _ Hr.out hf hen).mono ?_; rintro e w' ⟨r, rfl, hd, hb⟩; have Hd := Lib.hid hd; clear hd)
 go_ret
 exact ⟨ret_bool Hd.out, hb⟩
theorem containsFuncV_is (F : Nat) (cap : Value) (p : V → Bool) (S : Nat → Prop) (A : Option Addr) (c : Nat) (l : List V) (w : World) (y : Bool) (hy : Hid (l.any p = y)) (hr : RdSl vE w S (.slice A l.length c) l) (hf : TellsV F cap w p)
  (hen : ∀ (args : Array Value) (W : World), (callFunc F args).run Tryd.prog W = .ok (.enter F args) W) :
  Calls Tryd.prog 102 #[.slice A l.length c, .func (.func F) #[] #[cap]] w fun e w' => e = .returned (.bool y) ∧ Below w.heap.size w w' :=
 (containsFuncV_any F cap p S A c l w hr hf hen).mono fun _ _ ⟨he, h⟩ => ⟨by rw [he, hy.out], h⟩
theorem check1_any (m : Int) (A : Option Addr) (n c : Nat) (B : Nat) (w : World) (h0 : w.cell? ⟨B, 0, none⟩ = some (.int .i64 m)) (h1 : w.cell? ⟨B, 1, none⟩ = some (.slice A n c)) :
  TellsV 111 (.pointer (some ⟨B, 0, none⟩)) w (fun x => !valB n x) := by
 intro x W hb;have hB := lt_of_cell h0;have g0 : W.cell? ⟨B, 0, none⟩ = some (.int .i64 m) := (hb.cell (p := ⟨B, 0, none⟩) hB).trans h0;have g1 : W.cell? ⟨B, 1, none⟩ = some (.slice A n c) := (hb.cell (p := ⟨B, 1, none⟩) hB).trans h1;have hBW : B < W.heap.size := Nat.lt_of_lt_of_le hB hb.size;clear h0 h1 hb hB;go_enter Tryd.func111, Tryd.ntmps111
 go_wp2_with (refine (value_any m A n c x _).mono ?_; rintro e w' ⟨rfl, hb1⟩)
 go_ret
 exact ⟨rfl, ((Below.refl _ _).alloc (Nat.le_refl _) _).trans (hb1.mono (by simp))⟩
end Go.Proofs.YtabcjdalifhpdaaDoor
