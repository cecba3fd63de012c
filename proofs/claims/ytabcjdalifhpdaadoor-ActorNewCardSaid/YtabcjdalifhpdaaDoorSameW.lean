/- The walk of the statements' comparison of worlds: worlds that read the same are told to be. No condition beside what is read. -/
import Derived.Test.YtabcjdalifhpdaaDoorLoc
import Derived.Test.YtabcjdalifhpdaaDoorSame
namespace Go.Proofs.YtabcjdalifhpdaaDoor
open Go.RowKit

set_option maxRecDepth 100000 in
set_option maxHeartbeats 4000000 in
theorem sameWorld_eq (S T S' T' : Nat → Prop) (A A' B B' : Option Addr) (c c' d d' : Nat) (acs : List Ac) (ps : List Td) (w : World) (ha : RdSl acE w S (.slice A acs.length c) acs) (ha' : RdSl acE w S' (.slice A' acs.length c') acs)
    (hp : RdSl tdE w T (.slice B ps.length d) ps) (hp' : RdSl tdE w T' (.slice B' ps.length d') ps) :
    Calls Tryd.prog 35 #[.agg #[.slice A acs.length c, .slice B ps.length d], .agg #[.slice A' acs.length c', .slice B' ps.length d']] w fun e w' => e = .returned (.bool true) ∧ Below w.heap.size w w' := by
  obtain ⟨-, g1, g2, g3⟩ := ha.lims
  obtain ⟨-, g4, g5, g6⟩ := hp.lims
  have hB : Below w.heap.size w ((w.alloc (.cells #[.slice A acs.length c, .slice B ps.length d] 32)).alloc (.cells #[.slice A' acs.length c', .slice B' ps.length d'] 32)) := ((Below.refl _ _).alloc (Nat.le_refl _) _).alloc (by simp) _
  have HL0 := Lib.hid (((Locs.nil (w := w)).new (cs := #[.slice A acs.length c, .slice B ps.length d]) (t := 32) rfl).new (cs := #[.slice A' acs.length c', .slice B' ps.length d']) (t := 32) (n := w.heap.size + 1) (by simp))
  have Ha := Lib.hid (ha.below (by decide) hB)
  have Ha' := Lib.hid (ha'.below (by decide) hB)
  have Hp := Lib.hid (hp.below (by decide) hB)
  have Hp' := Lib.hid (hp'.below (by decide) hB)
  have hzW : w.heap.size + 1 + 1 ≤ ((w.alloc (.cells #[.slice A acs.length c, .slice B ps.length d] 32)).alloc (.cells #[.slice A' acs.length c', .slice B' ps.length d'] 32)).heap.size := by simp
  clear ha ha' hp hp'
  go_enter Tryd.func35, Tryd.ntmps35
  go_wp2_with (fail)
  generalize (w.alloc (.cells #[.slice A acs.length c, .slice B ps.length d] 32)).alloc (.cells #[.slice A' acs.length c', .slice B' ps.length d'] 32) = W0 at *
  have y1 : w.heap.size < W0.heap.size := by omega
  have y2 : w.heap.size + 1 < W0.heap.size := by omega
  obtain ⟨r0, q0, r1, q1, -⟩ := HL0.out.rules
  go_loopw [5] (fun i wr => ∃ k : Nat, k ≤ ps.length ∧ i = .int .i64 k ∧ ∃ q, wr = W0.drewN q) (fun i _ => ps.length - (intOf i).toNat)
  case atStart => exact ⟨0, by omega, rfl, 0, rfl⟩
  case round =>
    obtain ⟨k, hk, rfl, q, rfl⟩ := hrel
    by_cases hlt : k < ps.length
    · obtain ⟨x, hx⟩ : ∃ x, ps[k]? = some x := ⟨ps[k], List.getElem?_eq_getElem hlt⟩
      obtain ⟨b, o, rfl, _, _, z0, z1⟩ := Hp.out.at_t hx
      obtain ⟨b', o', rfl, _, _, z2, z3⟩ := Hp'.out.at_t hx
      have i1 : (0 : Int) ≤ (k : Int) := by omega
      have i2 : (k : Int) < (ps.length : Int) := by omega
      have e1 : (x.actor == x.actor) = true := by simp
      have e2 : (x.n == x.n) = true := by simp
      clear hx
      go_wp2
      go_quiet (fail)
      go_wp2
      go_roundw
      case rel => exact ⟨k + 1, by omega, by go_num, _, rfl⟩
      case measure => simp [intOf]; omega
    · have i2 : ¬ (k : Int) < (ps.length : Int) := by omega
      have hq : Below W0.heap.size W0 (W0.drewN q) := below_drewN (Below.refl _ _) q
      clear r0 q0 r1 q1
      obtain ⟨W1, hW1⟩ : ∃ W1, W1 = W0.drewN q := ⟨_, rfl⟩
      rw [← hW1] at hq ⊢
      have Hq := Lib.hid hq
      obtain ⟨r0, q0, r1, q1, -⟩ := (HL0.out.after hq).rules
      clear hW1 hq
      go_wp2_with fail
      go_loopw [6] (fun i wr => ∃ k : Nat, k ≤ acs.length ∧ i = .int .i64 k ∧ Below W0.heap.size W0 wr) (fun i _ => acs.length - (intOf i).toNat)
      case atStart => exact ⟨0, by omega, rfl, Hq.out⟩
      case round =>
        obtain ⟨k, hk, rfl, hb⟩ := hrel
        have hbz := hb.size
        have y3 : w.heap.size < wr.heap.size := by omega
        have y4 : w.heap.size + 1 < wr.heap.size := by omega
        obtain ⟨s0, t0, s1, t1, -⟩ := (HL0.out.after hb).rules
        by_cases hlt : k < acs.length
        · obtain ⟨x, hx⟩ : ∃ x, acs[k]? = some x := ⟨acs[k], List.getElem?_eq_getElem hlt⟩
          obtain ⟨b, o, Bo, co, Br, cr, Bb, cb, rfl, _, hbs, z0, z1, z2, z3, z4, z5, z6, z7, ro, rr, rb⟩ := (Ha.out.below (by decide) hb).at_a hx
          obtain ⟨b', o', Bo', co', Br', cr', Bb', cb', rfl, _, hbs', u0, u1, u2, u3, u4, u5, u6, u7, ro', rr', rb'⟩ := (Ha'.out.below (by decide) hb).at_a hx
          have i1 : (0 : Int) ≤ (k : Int) := by omega
          have i2' : (k : Int) < (acs.length : Int) := by omega
          have e1 : (x.kind != x.kind) = false := by simp
          have e2 : (x.parent != x.parent) = false := by simp
          have e3 : (x.pc != x.pc) = false := by simp
          have e4 : (x.fin != x.fin) = false := by simp
          have hbe : Below wr.heap.size wr ((wr.alloc (.cells #[.int .i64 x.kind, .int .i64 x.parent, .int .i64 x.heap.most, .slice Bo x.heap.objs.length co, .slice Br x.regs.length cr, .int .i64 x.pc, .slice Bb x.box.length cb, .int .i64 x.fin] 54)).alloc
            (.cells #[.int .i64 x.kind, .int .i64 x.parent, .int .i64 x.heap.most, .slice Bo' x.heap.objs.length co', .slice Br' x.regs.length cr', .int .i64 x.pc, .slice Bb' x.box.length cb', .int .i64 x.fin] 54)) := ((Below.refl _ _).alloc (Nat.le_refl _) _).alloc (by simp) _
          have HLe := Lib.hid (((Locs.nil (w := wr)).new (cs := #[.int .i64 x.kind, .int .i64 x.parent, .int .i64 x.heap.most, .slice Bo x.heap.objs.length co, .slice Br x.regs.length cr, .int .i64 x.pc, .slice Bb x.box.length cb, .int .i64 x.fin]) (t := 54) rfl).new
            (cs := #[.int .i64 x.kind, .int .i64 x.parent, .int .i64 x.heap.most, .slice Bo' x.heap.objs.length co', .slice Br' x.regs.length cr', .int .i64 x.pc, .slice Bb' x.box.length cb', .int .i64 x.fin]) (t := 54) (n := wr.heap.size + 1) (by simp))
          have Ro := Lib.hid (ro.below (by decide) hbe)
          have Rr := Lib.hid (rr.below (by decide) hbe)
          have Rb := Lib.hid (rb.below (by decide) hbe)
          have Ro' := Lib.hid (ro'.below (by decide) hbe)
          have Rr' := Lib.hid (rr'.below (by decide) hbe)
          have Rb' := Lib.hid (rb'.below (by decide) hbe)
          have hbW := below_after hb hbe
          clear hx ro rr rb ro' rr' rb' hbe
          obtain ⟨v0, f0, v1, f1, -⟩ := HLe.out.rules
          go_wp2_with fail
          refine (sameHeap_eq x.heap.most _ _ Bo Bo' co co' x.heap.objs _ Ro.out Ro'.out).mono ?_
          rintro e w2 ⟨rfl, hb2⟩
          have HL2 := Lib.hid (HLe.out.after hb2)
          have hbW2 := below_after hbW hb2
          clear v0 f0 v1 f1
          obtain ⟨v0, f0, v1, f1, -⟩ := HL2.out.rules
          go_wp2_with fail
          refine (sameValues_eq _ _ Br Br' cr cr' x.regs _ (Rr.out.below (by decide) hb2) (Rr'.out.below (by decide) hb2)).mono ?_
          rintro e w3 ⟨rfl, n3, rfl⟩
          have hb3 : Below w2.heap.size w2 (w2.drewN n3) := below_drewN (Below.refl _ _) n3
          obtain ⟨W3, hW3⟩ : ∃ W3, W3 = w2.drewN n3 := ⟨_, rfl⟩
          rw [← hW3] at hb3 ⊢
          have HL3 := Lib.hid (HL2.out.after hb3)
          have hbW3 := below_after hbW2 hb3
          clear v0 f0 v1 f1 hW3
          obtain ⟨v0, f0, v1, f1, -⟩ := HL3.out.rules
          go_wp2_with fail
          refine (sameValues_eq _ _ Bb Bb' cb cb' x.box _ ((Rb.out.below (by decide) hb2).below (by decide) hb3) ((Rb'.out.below (by decide) hb2).below (by decide) hb3)).mono ?_
          rintro e w4 ⟨rfl, n4, rfl⟩
          have hbW4 := below_drewN hbW3 n4
          go_wp2
          go_roundw
          case rel => exact ⟨k + 1, by omega, by go_num, hbW4⟩
          case measure => simp [intOf]; omega
        · have i3 : ¬ (k : Int) < (acs.length : Int) := by omega
          go_wp2
          go_ret
          exact ⟨rfl, hB.trans (hb.mono (by omega))⟩
end Go.Proofs.YtabcjdalifhpdaaDoor
