/- The walks of heap.Reach, of the document's answer to it, and of the statements' comparison of numbers. No condition beside what is read. -/
import Derived.Test.YtfafnjkinolkmaaLedTo
import Derived.Test.YtfafnjkinolkmaaHeapA
import Derived.Test.YtfafnjkinolkmaaGet
namespace Go.Proofs.Ytfafnjkinolkmaa
open Go.RowKit

theorem hpB_slim {m : Int} {os : List Ob} {roots : List V} (h : hpB ⟨m, os⟩ roots = true) : ∀ o ∈ os, o.fields.length ≤ 4 := fun o ho => by
  simp only [hpB, Bool.and_eq_true] at h
  have := List.all_eq_true.1 h.1.2 o ho
  simp only [obB, Bool.and_eq_true, decide_eq_true_eq] at this
  exact this.1.1


/-- What a heap's values lead to, and whether it may be asked. -/
noncomputable def reachR (h : Hp) (roots : List V) : List Int := if hpB h roots = true then reachL h.objs roots else []
def ReachD (w : World) (h : Hp) (roots : List V) (en : Ending) (w' : World) : Prop :=
  ∃ A c, en = .returned (.tuple #[.slice A (reachR h roots).length c, .int .i64 (checkN h roots)]) ∧ RdSl iE w' (fun b => w.heap.size ≤ b) (.slice A (reachR h roots).length c) (reachR h roots) ∧ Below w.heap.size w w'
theorem told_rd {w : World} {base n : Nat} {v : Value} {l : List Int} (hn : n ≤ 60) (ht : Go.Proofs.Ytfafnjkinolkmaa.Told n l) (h : w.ownsRow base 3 1 v l.length (l.map (.int .i64))) :
    ∃ A c, v = .slice A l.length c ∧ RdSl iE w (fun b => base ≤ b) (.slice A l.length c) l := by
  obtain ⟨A, c, rfl⟩ := own_form h
  exact ⟨A, c, rfl, (own_i h (by have := ht.len; omega)).rd.keep (by decide) (fun _ _ hS => ⟨hS.resolve_left id, rfl⟩)⟩

set_option maxHeartbeats 1000000 in
theorem reachD_any (m : Int) (S T : Nat → Prop) (A R : Option Addr) (c d : Nat) (os : List Ob) (roots : List V) (w : World) (hr : RdSl obE w S (.slice A os.length c) os) (hq : RdSl vE w T (.slice R roots.length d) roots) :
    Calls Try.prog 21 #[.agg #[.int .i64 m, .slice A os.length c], .slice R roots.length d] w (ReachD w ⟨m, os⟩ roots) := by
  have Hr := Lib.hid hr
  have Hq := Lib.hid hq
  have hB : Below w.heap.size w (w.alloc (.cells #[.int .i64 m, .slice A os.length c] 26)) := (Below.refl _ _).alloc (Nat.le_refl _) _
  have HL0 := Lib.hid (Locs.nil.new (w := w) (cs := #[.int .i64 m, .slice A os.length c]) (t := 26) rfl)
  clear hr hq
  unfold ReachD
  cases hp : hpB ⟨m, os⟩ roots
  · have e1 : reachR ⟨m, os⟩ roots = [] := by simp [reachR, hp]
    have e2 : checkN ⟨m, os⟩ roots = 8 := by simp [checkN, hp]
    have Hc := Lib.hid e2
    rw [e1, e2]
    clear hp e1 e2
    go_enter Try.func21, Try.ntmps21
    go_wp2_with fail
    refine (check_is m _ _ A R c d os roots _ _ Hc (Hr.out.below (by decide) hB) (Hq.out.below (by decide) hB)).mono ?_
    rintro e w1 ⟨rfl, hb1⟩
    have hbb := below_after hB hb1
    go_wp2
    go_ret2
    exact ⟨none, 0, rfl, ⟨none, 0, rfl, Nat.le_refl _, Nat.zero_le _, by simp, fun h => absurd rfl h⟩, hbb⟩
  · have e1 : reachR ⟨m, os⟩ roots = reachL os roots := by simp [reachR, hp]
    have e2 : checkN ⟨m, os⟩ roots = 0 := by simp [checkN, hp]
    have Hc := Lib.hid e2
    have Hp := Lib.hid hp
    rw [e1, e2]
    clear hp e1 e2
    go_enter Try.func21, Try.ntmps21
    go_wp2_with fail
    refine (check_is m _ _ A R c d os roots _ _ Hc (Hr.out.below (by decide) hB) (Hq.out.below (by decide) hB)).mono ?_
    rintro e w1 ⟨rfl, hb1⟩
    have hbb := below_after hB hb1
    obtain ⟨r0, q0, -⟩ := (HL0.out.after hb1).rules
    go_wp2_with fail
    refine (reach_any m _ _ A R c d os roots _ (Hr.out.below (by decide) hbb) (Hq.out.below (by decide) hbb) (hpB_refs Hp.out)).mono ?_
    rintro e w2 ⟨v, l, rfl, hl, ht, ho, hb2⟩
    obtain ⟨A2, c2, rfl, hrd⟩ := told_rd (hpB_refs Hp.out).few ht ho
    have hbb2 := below_after hbb hb2
    have e3 := reachL_is hl
    subst e3
    have Hrd := Lib.hid (hrd.new (by decide) hbb.size)
    clear hl ht ho hrd
    go_wp2
    go_ret2
    exact ⟨A2, c2, rfl, Hrd.out, hbb2⟩

end Go.Proofs.Ytfafnjkinolkmaa
