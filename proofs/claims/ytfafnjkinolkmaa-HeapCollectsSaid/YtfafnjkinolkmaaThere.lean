/- The walk of heap.Transfer's second closure: a value as it stands in the other heap. Condition: the map tells the new places. -/
import Derived.Test.YtfafnjkinolkmaaMap
import Derived.Test.YtfafnjkinolkmaaCome
import Derived.Deep.CutRange
namespace Go.Proofs.Ytfafnjkinolkmaa
open Go.RowKit

theorem zeroI (w : World) : (zeroValue 3).run Try.prog w = .ok (.int .i64 0) w := by kernel_rfl
/-- A value whose place is told anew. -/
def newV (g : Int → Int) (x : V) : V := if x.k = 2 then ⟨2, g x.n⟩ else x

set_option maxHeartbeats 1000000 in
theorem there_any (g : Int → Int) (bm b cnt : Nat) (x : V) (w : World) (hc : w.cell? ⟨bm, 0, none⟩ = some (.map (some b))) (hm : MapV Try.prog 3 3 (.int .i64 0) w b cnt (fun k => .int .i64 (g k))) (hw : x.k = 2 → 0 ≤ x.n ∧ x.n < 60) :
    Calls Try.prog 41 #[.agg #[.int .i64 x.k, .int .i64 x.n], .pointer (some ⟨bm, 0, none⟩)] w fun e w' => e = .returned (.agg #[.int .i64 (newV g x).k, .int .i64 (newV g x).n]) ∧ Below w.heap.size w w' := by
  obtain ⟨k, n⟩ := x
  dsimp only at hw ⊢
  have hbm := lt_of_cell hc
  have hB : Below w.heap.size w ((w.alloc (.cells #[.int .i64 k, .int .i64 n] 31)).alloc (.cells #[.int .i64 0, .int .i64 0] 31)) := ((Below.refl _ _).alloc (Nat.le_refl _) _).alloc (by simp) _
  have HL := Lib.hid (((Locs.nil (w := w)).new (cs := #[.int .i64 k, .int .i64 n]) (t := 31) rfl).new (cs := #[.int .i64 0, .int .i64 0]) (t := 31) (n := w.heap.size + 1) (by simp))
  have hc2 := (hB.cell (p := ⟨bm, 0, none⟩) hbm).trans hc
  have hm2 := hm.keep (hB.block _ hm.lt)
  have hz2 : ((w.alloc (.cells #[.int .i64 k, .int .i64 n] 31)).alloc (.cells #[.int .i64 0, .int .i64 0] 31)).heap.size = w.heap.size + 1 + 1 := by simp
  by_cases hk : k = 2
  · subst hk
    obtain ⟨n1, n2⟩ := hw rfl
    have hrun := hm2.lookup (.inr ⟨_, Try.underlying3⟩) Try.underlying3 Try.underlying73 (zeroI _) (wf60 ⟨n1, n2⟩)
    have hv : newV g ⟨2, n⟩ = ⟨2, g n⟩ := if_pos rfl
    rw [hv]
    clear hc hm hm2 hw
    go_enter Try.func41, Try.ntmps41
    go_upto_region 1 with fail
    generalize (w.alloc (.cells #[.int .i64 2, .int .i64 n] 31)).alloc (.cells #[.int .i64 0, .int .i64 0] 31) = W at *
    obtain ⟨r3, q3, r2, q2, -⟩ := HL.out.rules
    dsimp only at r3 q3 r2 q2
    go_upto_region 3 with fail
    have HL2 := Lib.hid (HL.out.put 1 1 (.int .i64 (g n)) rfl (by simp <;> omega))
    have hB2 : Below w.heap.size w (W.setCell ⟨w.heap.size, 1, none⟩ (.int .i64 (g n))) := hB.setCell (p := ⟨w.heap.size, 1, none⟩) (Nat.le_refl _) _
    clear r3 q3 r2 q2
    generalize W.setCell ⟨w.heap.size, 1, none⟩ (.int .i64 (g n)) = W2 at *
    obtain ⟨r3, q3, r2, q2, -⟩ := HL2.out.rules
    simp only [List.set_cons_succ, List.set_cons_zero, List.setIfInBounds_toArray] at r3 q3 r2 q2
    go_wp2_with fail
    have L3 := HL2.out.set2 0 (.int .i64 2) (.int .i64 (g n)) rfl rfl (by simp <;> omega)
    obtain ⟨s3, -⟩ := L3.rules
    simp only [List.set_cons_succ, List.set_cons_zero, List.setIfInBounds_toArray] at s3
    refine bodyPost_ret (v := .agg #[.int .i64 2, .int .i64 (g n)]) (by simp [results, Try.results41, go_sem, s3]) rfl ⟨rfl, below_set2 hB2 (by omega)⟩
  · have hkb : (k == 2) = false := by simpa using hk
    have hv : newV g ⟨k, n⟩ = ⟨k, n⟩ := if_neg hk
    rw [hv]
    clear hc hm hm2 hw hk
    go_enter Try.func41, Try.ntmps41
    go_upto_region 1 with fail
    generalize (w.alloc (.cells #[.int .i64 k, .int .i64 n] 31)).alloc (.cells #[.int .i64 0, .int .i64 0] 31) = W at *
    obtain ⟨r3, q3, r2, q2, -⟩ := HL.out.rules
    dsimp only at r3 q3 r2 q2
    go_wp2_with fail
    have L3 := HL.out.set2 0 (.int .i64 k) (.int .i64 n) rfl rfl (by simp <;> omega)
    obtain ⟨s3, -⟩ := L3.rules
    simp only [List.set_cons_succ, List.set_cons_zero, List.setIfInBounds_toArray] at s3
    refine bodyPost_ret (v := .agg #[.int .i64 k, .int .i64 n]) (by simp [results, Try.results41, go_sem, s3]) rfl ⟨rfl, below_set2 hB (by omega)⟩
end Go.Proofs.Ytfafnjkinolkmaa
