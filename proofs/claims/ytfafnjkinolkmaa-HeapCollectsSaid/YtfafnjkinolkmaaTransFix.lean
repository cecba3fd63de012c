/- The walk of the closure of the document's answer to a transfer: a value as it stands in the other heap. Condition: the value's place is among those that are carried. -/
import Derived.Test.YtfafnjkinolkmaaTransP
import Derived.Test.YtfafnjkinolkmaaCome
import Derived.Deep.CutRange
namespace Go.Proofs.Ytfafnjkinolkmaa
open Go.RowKit

theorem plM_mem {n : Nat} {l : List Int} (hn : l.Nodup) {k : Nat} {y : Int} (hk : l[k]? = some y) : plM n l y = (n : Int) + (k : Int) := by
  rw [plM_at hn hk]; omega
theorem not_take {l : List Int} {k : Nat} {y x : Int} (hk : l[k]? = some y) (hx : x ∉ l.take k) (hne : y ≠ x) : x ∉ l.take (k + 1) := by
  rw [List.take_add_one, hk]
  simp
  exact ⟨hx, fun e => hne e.symm⟩
set_option maxHeartbeats 1000000 in
theorem fix_any (n : Nat) (S : Nat → Prop) (A : Option Addr) (c : Nat) (l : List Int) (bl bn : Nat) (x : V) (w : World) (hl : w.cell? ⟨bl, 0, none⟩ = some (.slice A l.length c)) (hn : w.cell? ⟨bn, 0, none⟩ = some (.int .i64 n)) (hr : RdSl iE w S (.slice A l.length c) l)
    (hx : x.k = 2 → x.n ∈ l) (hnd : l.Nodup) (hs : n + l.length ≤ 1000000) :
    Calls Try.prog 44 #[.agg #[.int .i64 x.k, .int .i64 x.n], .pointer (some ⟨bl, 0, none⟩), .pointer (some ⟨bn, 0, none⟩)] w fun e w' => e = .returned (.agg #[.int .i64 (newV (plM n l) x).k, .int .i64 (newV (plM n l) x).n]) ∧ Below w.heap.size w w' := by
  obtain ⟨k, m⟩ := x
  dsimp only at hx ⊢
  have hbl := lt_of_cell hl
  have hbn := lt_of_cell hn
  obtain ⟨-, g1, g2, g3⟩ := hr.lims
  have hB : Below w.heap.size w ((w.alloc (.cells #[.int .i64 k, .int .i64 m] 31)).alloc (.cells #[.int .i64 0, .int .i64 0] 31)) := ((Below.refl _ _).alloc (Nat.le_refl _) _).alloc (by simp) _
  have HL := Lib.hid (((Locs.nil (w := w)).new (cs := #[.int .i64 k, .int .i64 m]) (t := 31) rfl).new (cs := #[.int .i64 0, .int .i64 0]) (t := 31) (n := w.heap.size + 1) (by simp))
  have hl2 := (hB.cell (p := ⟨bl, 0, none⟩) hbl).trans hl
  have hn2 := (hB.cell (p := ⟨bn, 0, none⟩) hbn).trans hn
  have Hr := Lib.hid (hr.below (by decide) hB)
  by_cases hk : k = 2
  · subst hk
    obtain ⟨j0, hj0, hj1⟩ := List.getElem_of_mem (hx rfl)
    have hj : l[j0]? = some m := by rw [List.getElem?_eq_getElem hj0, hj1]
    have hv : newV (plM n l) ⟨2, m⟩ = ⟨2, plM n l m⟩ := if_pos rfl
    rw [hv]
    have Hnd := Lib.hid hnd
    have Hj := Lib.hid hj
    clear hx hr hl hn hv hnd hj hj1
    go_enter Try.func44, Try.ntmps44
    go_upto_region 1 with fail
    generalize (w.alloc (.cells #[.int .i64 2, .int .i64 m] 31)).alloc (.cells #[.int .i64 0, .int .i64 0] 31) = W at *
    obtain ⟨r3, q3, r2, q2, -⟩ := HL.out.rules
    dsimp only at r3 q3 r2 q2
    go_wp2
    go_loopw [5] (fun i wr => ∃ k : Nat, k ≤ l.length ∧ i = .int .i64 k ∧ m ∉ l.take k ∧ ∃ q, wr = W.drewN q) (fun i _ => l.length - (intOf i).toNat)
    case atStart => exact ⟨0, by omega, rfl, by simp, 0, rfl⟩
    case round =>
      obtain ⟨k, hk, rfl, hnot, q, rfl⟩ := hrel
      by_cases hlt : k < l.length
      · obtain ⟨y, hy⟩ : ∃ y, l[k]? = some y := ⟨l[k], List.getElem?_eq_getElem hlt⟩
        obtain ⟨b, o, rfl, _, _, y0⟩ := Hr.out.at_i hy
        have Hy := Lib.hid hy
        have Hnot := Lib.hid hnot
        clear hy hnot
        have i1 : (0 : Int) ≤ (k : Int) := by omega
        have i2 : (k : Int) < (l.length : Int) := by omega
        by_cases hym : y = m
        · subst hym
          have hpl := plM_mem (n := n) Hnd.out Hy.out
          have Hpl := Lib.hid hpl
          clear hpl
          go_wp2
          go_quiet (fail)
          go_wp2
          have L3 := (show Locs (W.drewN (q + nq)) [(w.heap.size + 1, #[.int .i64 0, .int .i64 0], 31), (w.heap.size, #[.int .i64 2, .int .i64 y], 31)] from HL.out).set2 0 (.int .i64 2) (.int .i64 ((n : Int) + k)) rfl rfl (by simp <;> omega)
          obtain ⟨s3, -⟩ := L3.rules
          simp only [List.set_cons_succ, List.set_cons_zero, List.setIfInBounds_toArray] at s3
          refine bodyPost_ret (v := .agg #[.int .i64 2, .int .i64 ((n : Int) + k)]) (by simp [results, Try.results44, go_sem, s3]) rfl ⟨by rw [Hpl.out], below_set2 (below_drewN hB _) (by omega)⟩
        · have hyb : (y == m) = false := by simpa using hym
          go_wp2
          go_quiet (fail)
          go_wp2
          go_roundw
          case rel => exact ⟨k + 1, by omega, by go_num, not_take Hy.out Hnot.out hym, _, rfl⟩
          case measure => simp [intOf]; omega
      · exfalso
        rw [List.take_of_length_le (by omega)] at hnot
        exact hnot (List.mem_of_getElem? Hj.out)
  · have hkb : (k == 2) = false := by simpa using hk
    have hv : newV (plM n l) ⟨k, m⟩ = ⟨k, m⟩ := if_neg hk
    rw [hv]
    clear hl hn hr hx hk
    go_enter Try.func44, Try.ntmps44
    go_upto_region 1 with fail
    generalize (w.alloc (.cells #[.int .i64 k, .int .i64 m] 31)).alloc (.cells #[.int .i64 0, .int .i64 0] 31) = W at *
    obtain ⟨r3, q3, r2, q2, -⟩ := HL.out.rules
    dsimp only at r3 q3 r2 q2
    go_wp2_with fail
    have L3 := HL.out.set2 0 (.int .i64 k) (.int .i64 m) rfl rfl (by simp <;> omega)
    obtain ⟨s3, -⟩ := L3.rules
    simp only [List.set_cons_succ, List.set_cons_zero, List.setIfInBounds_toArray] at s3
    refine bodyPost_ret (v := .agg #[.int .i64 k, .int .i64 m]) (by simp [results, Try.results44, go_sem, s3]) rfl ⟨rfl, below_set2 hB (by omega)⟩
end Go.Proofs.Ytfafnjkinolkmaa
