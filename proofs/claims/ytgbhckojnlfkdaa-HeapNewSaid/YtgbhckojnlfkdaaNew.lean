/- The walks of heap.New and of the document's answer to it. No condition. -/
import Derived.Test.YtgbhckojnlfkdaaSame
namespace Go.Proofs.Ytgbhckojnlfkdaa
open Go.RowKit

/-- What a heap of so many objects at most reads as. -/
def newM (most : Int) : Int := if 0 ≤ most ∧ most ≤ 60 then most else 0
def newE (most : Int) : Int := if 0 ≤ most ∧ most ≤ 60 then 0 else 2

set_option maxHeartbeats 400000 in
theorem new_any (most : Int) (w : World) :
    Calls Try.prog 22 #[.int .i64 most] w fun e w' => e = .returned (.tuple #[.agg #[.int .i64 (newM most), .slice none 0 0], .int .i64 (newE most)]) ∧ Below w.heap.size w w' := by
  by_cases h : 0 ≤ most ∧ most ≤ 60
  · obtain ⟨h1, h2⟩ := h
    have e1 : newM most = most := if_pos ⟨h1, h2⟩
    have e2 : newE most = 0 := if_pos ⟨h1, h2⟩
    rw [e1, e2]
    clear e1 e2
    go_enter Try.func22, Try.ntmps22
    go_wp2
    exact bodyPost_ret (v := .tuple #[.agg #[.int .i64 most, .slice none 0 0], .int .i64 0]) (by simp [results, Try.results22, go_sem]) rfl ⟨rfl, (Below.refl _ _).alloc (Nat.le_refl _) _⟩
  · have e1 : newM most = 0 := if_neg h
    have e2 : newE most = 2 := if_neg h
    rw [e1, e2]
    clear e1 e2
    rcases (by omega : most < 0 ∨ (0 ≤ most ∧ 60 < most)) with h1 | h1
    all_goals
      clear h
      go_enter Try.func22, Try.ntmps22
      go_wp2
      exact bodyPost_ret (v := .tuple #[.agg #[.int .i64 0, .slice none 0 0], .int .i64 2]) (by simp [results, Try.results22, go_sem]) rfl ⟨rfl, (Below.refl _ _).alloc (Nat.le_refl _) _⟩
set_option maxHeartbeats 400000 in
theorem heapNew_any (most : Int) (w : World) :
    Calls Try.prog 23 #[.int .i64 most] w fun e w' => e = .returned (.tuple #[.agg #[.int .i64 (newM most), .slice none 0 0], .int .i64 (newE most)]) ∧ Below w.heap.size w w' := by
  by_cases h : 0 ≤ most ∧ most ≤ 60
  · have e1 : newM most = most := if_pos h
    have e2 : newE most = 0 := if_pos h
    have e3 : (decide (0 ≤ most) && decide (most ≤ 60)) = true := by simp [h.1, h.2]
    have E3 := Lib.hid e3
    rw [e1, e2]
    clear e1 e2 e3 h
    go_enter Try.func23, Try.ntmps23
    go_wp2_with fail
    refine (in_any _ _ _ _).mono ?_
    rintro e w' ⟨rfl, rfl⟩
    rw [E3.out]
    go_wp2
    exact bodyPost_ret (v := .tuple #[.agg #[.int .i64 most, .slice none 0 0], .int .i64 0]) (by simp [results, Try.results23, go_sem]) rfl ⟨rfl, (Below.refl _ _).alloc (Nat.le_refl _) _⟩
  · have e1 : newM most = 0 := if_neg h
    have e2 : newE most = 2 := if_neg h
    have e3 : (decide (0 ≤ most) && decide (most ≤ 60)) = false := by simp; omega
    have E3 := Lib.hid e3
    rw [e1, e2]
    clear e1 e2 e3 h
    go_enter Try.func23, Try.ntmps23
    go_wp2_with fail
    refine (in_any _ _ _ _).mono ?_
    rintro e w' ⟨rfl, rfl⟩
    rw [E3.out]
    go_wp2
    exact bodyPost_ret (v := .tuple #[.agg #[.int .i64 0, .slice none 0 0], .int .i64 2]) (by simp [results, Try.results23, go_sem]) rfl ⟨rfl, (Below.refl _ _).alloc (Nat.le_refl _) _⟩

theorem RdSl.nil {α : Type} {E : El α} {w : World} {S : Nat → Prop} : RdSl E w S (.slice none ([] : List α).length 0) [] :=
  ⟨none, 0, rfl, Nat.le_refl _, Nat.zero_le _, by simp, fun h => absurd rfl h⟩

set_option maxHeartbeats 400000 in
theorem lawHeapNew_any (most : Int) (w : World) :
    Calls Try.prog 4 #[.int .i64 most] w fun e w' => e = .returned (.bool true) ∧ Below w.heap.size w w' := by
  have e1 : (newE most == newE most) = true := by simp
  go_enter Try.func4, Try.ntmps4
  go_wp2_with fail
  refine (new_any _ _).mono ?_
  rintro e w1 ⟨rfl, hb1⟩
  go_wp2_with fail
  refine (heapNew_any _ _).mono ?_
  rintro e w2 ⟨rfl, hb2⟩
  have q0 : w2.cell? ⟨w1.heap.size, 0, none⟩ = some (.int .i64 (newM most)) := cell_new hb2 0
  have q1 : w2.cell? ⟨w1.heap.size, 1, none⟩ = some (.slice none 0 0) := cell_new hb2 1
  have hz : w1.heap.size < w2.heap.size := by have := hb2.size; simp at this; omega
  go_wp2_with fail
  refine (sameHeap_eq (newM most) (fun _ => True) (fun _ => True) none none 0 0 [] _ RdSl.nil RdSl.nil).mono ?_
  rintro e w3 ⟨rfl, hb3⟩
  go_wp2
  go_ret
  refine ⟨rfl, (((hb1.alloc hb1.size _).trans (hb2.mono (by have := hb1.size; simp; omega))).alloc (by have := hb1.size; omega) _).trans (hb3.mono ?_)⟩
  have := hb1.size
  simp
  omega

end Go.Proofs.Ytgbhckojnlfkdaa
