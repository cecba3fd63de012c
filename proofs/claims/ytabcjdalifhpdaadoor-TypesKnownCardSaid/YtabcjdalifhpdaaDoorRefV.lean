/- The walks of the document's mayBeDone, waysOn, sameKnown. Condition: registers, the operator and places are in their bounds. -/
import Derived.Test.YtabcjdalifhpdaaDoorLaterOf
namespace Go.Proofs.YtabcjdalifhpdaaDoor
open Go.RowKit

set_option maxHeartbeats 2000000 in
theorem waysOn_any (t op a b n : Int) (ho : 0 ≤ op ∧ op ≤ 19) (ht : 0 ≤ t ∧ t < 1000) (hn : op = 5 ∨ op = 6 → -1000 ≤ n ∧ n ≤ 1000) (w : World) :
    Calls Tryd.prog 127 #[.int .i64 t, .agg #[.int .i64 op, .int .i64 a, .int .i64 b, .int .i64 n]] w (WaysD w (waysP t ⟨op, a, b, n⟩)) := by
  have hB : Below w.heap.size w (w.alloc (.cells #[.int .i64 op, .int .i64 a, .int .i64 b, .int .i64 n] 42)) := (Below.refl _ _).alloc (Nat.le_refl _) _
  have HL := Lib.hid ((Locs.nil (w := w)).new (cs := #[.int .i64 op, .int .i64 a, .int .i64 b, .int .i64 n]) (t := 42) rfl)
  have hz : (w.alloc (.cells #[.int .i64 op, .int .i64 a, .int .i64 b, .int .i64 n] 42)).heap.size = w.heap.size + 1 := by simp
  by_cases h0 : op = 0 ∨ op = 19
  · have hw : waysP t ⟨op, a, b, n⟩ = [] := if_pos h0
    rw [hw]
    clear hw hn
    rcases h0 with rfl | rfl
    all_goals
      go_enter Tryd.func127, Tryd.ntmps127
      go_wp2
      go_ret
      exact ways_nil hB
  · by_cases h6 : op = 6
    · subst h6
      have hw : waysP t ⟨6, a, b, n⟩ = [t + n] := rfl
      obtain ⟨n1, n2⟩ := hn (.inr rfl)
      rw [hw]
      clear hw hn h0
      go_enter Tryd.func127, Tryd.ntmps127
      go_wp2
      go_ret
      exact ⟨_, _, rfl, rd_i1 (blk_at (by simp)) (by simp), hB.alloc (by simp) _⟩
    · by_cases h5 : op = 5
      · subst h5
        have hw : waysP t ⟨5, a, b, n⟩ = [t + 1, t + n] := rfl
        obtain ⟨n1, n2⟩ := hn (.inl rfl)
        rw [hw]
        clear hw hn h0
        go_enter Tryd.func127, Tryd.ntmps127
        go_wp2
        go_ret
        exact ⟨_, _, rfl, rd_i2 (blk_at (by simp)) (by simp), hB.alloc (by simp) _⟩
      · have hw : waysP t ⟨op, a, b, n⟩ = [t + 1] := by
          show (if op = 0 ∨ op = 19 then _ else if op = 6 then _ else if op = 5 then _ else _) = _
          rw [if_neg h0, if_neg h6, if_neg h5]
        rw [hw]
        have b0 : (op == 0) = false := by simp; omega
        have b1 : (op == 19) = false := by simp; omega
        have b2 : (op == 6) = false := by simpa using h6
        have b3 : (op == 5) = false := by simpa using h5
        clear hw hn h0 h6 h5
        go_enter Tryd.func127, Tryd.ntmps127
        go_wp2
        go_ret
        exact ⟨_, _, rfl, rd_i1 (blk_at (by simp)) (by simp), hB.alloc (by simp) _⟩
set_option maxRecDepth 100000 in
set_option maxHeartbeats 4000000 in
theorem mayBeDone_any (S : Nat → Prop) (A : Option Addr) (c : Nat) (k : List Int) (hk : k.length = 8) (op n : Int) (a b : Nat) (ho : 0 ≤ op ∧ op ≤ 19) (ha : a < 8) (hb : b < 8) (w : World) (hr : RdSl iE w S (.slice A k.length c) k) :
    Calls Tryd.prog 106 #[.slice A k.length c, .agg #[.int .i64 op, .int .i64 a, .int .i64 b, .int .i64 n]] w fun e w' => e = .returned (.bool (mayB k ⟨op, a, b, n⟩)) ∧ Below w.heap.size w w' := by
  rw [mayB_O]
  have hx0 := at8_at (k := k) (a := 0) (by omega)
  have hxa := at8_at (k := k) (a := a) (by omega)
  have hxb := at8_at (k := k) (a := b) (by omega)
  have a1 : (0 : Int) ≤ (a : Int) := by omega
  have a2 : (a : Int) < 8 := by omega
  have b1 : (0 : Int) ≤ (b : Int) := by omega
  have b2 : (b : Int) < 8 := by omega
  obtain ⟨-, l1, l2, l3⟩ := hr.lims
  obtain ⟨fb, fo, rfl, _, hfb, _⟩ := hr.at_i hxa
  have c0 := rd_iat hr hx0
  rw [Nat.add_zero] at c0
  have ca := rd_iat hr hxa
  have cb := rd_iat hr hxb
  rw [hk] at l1 ⊢
  show Calls _ _ _ _ (fun e w' => e = .returned (.bool (mayO (at8 k ((0 : Nat) : Int)) (at8 k (a : Int)) (at8 k (b : Int)) op)) ∧ Below w.heap.size w w')
  generalize at8 k ((0 : Nat) : Int) = x0 at *
  generalize at8 k (a : Int) = xa at *
  generalize at8 k (b : Int) = xb at *
  clear hx0 hxa hxb hr l3 hk
  have hm : ∃ m, mayO x0 xa xb op = m := ⟨_, rfl⟩
  obtain ⟨m, hm⟩ := hm
  rw [hm]
  have hB0 : ∀ o : Int, Below w.heap.size w (w.alloc (.cells #[.int .i64 o, .int .i64 a, .int .i64 b, .int .i64 n] 42)) := fun o => (Below.refl _ _).alloc (Nat.le_refl _) _
  rcases op_cases (show ¬ (op < 0 ∨ 19 < op) by omega) with rfl | rfl | rfl | rfl | rfl | rfl | rfl | rfl | rfl | rfl | rfl | rfl | rfl | rfl | rfl | rfl | rfl | rfl | rfl | rfl
  all_goals
    simp only [mayO, reduceIte, Int.reduceEq, or_true, or_false] at hm
    have Hm := Lib.hid hm
    clear hm
    go_enter Tryd.func106, Tryd.ntmps106
    go_wp2_with (refine (isObject_any _ _).mono ?_; rintro e w' ⟨rfl, rfl⟩)
    all_goals
      go_ret
      refine ⟨ret_bool ?_, hB0 _⟩
      first | exact Hm.out | (rw [← Hm.out]; done) | (rw [← Hm.out]; simp_all; done)
set_option maxHeartbeats 2000000 in
theorem sameKnown_any (S T : Nat → Prop) (A B : Option Addr) (c d : Nat) (k l : List Int) (hk : k.length = 8) (hl : l.length = 8) (w : World) (hr : RdSl iE w S (.slice A k.length c) k) (hq : RdSl iE w T (.slice B l.length d) l) (r : Bool) (hR : decide (k = l) = r) :
    Calls Tryd.prog 129 #[.slice A k.length c, .slice B l.length d] w fun e w' => e = .returned (.bool r) ∧ ∃ q, w' = w.drewN q := by
  obtain ⟨-, l1, l2, l3⟩ := hr.lims
  obtain ⟨-, m1, m2, m3⟩ := hq.lims
  have Hr := Lib.hid hr
  have Hq := Lib.hid hq
  have HR := Lib.hid hR
  clear hr hq l3 m3 hR
  go_enter Tryd.func129, Tryd.ntmps129
  go_wp2
  go_loopw [5] (fun i wr => ∃ j : Nat, i = .int .i64 j ∧ j ≤ 8 ∧ (∀ t, t < j → k[t]? = l[t]?) ∧ ∃ q, wr = w.drewN q) (fun i _ => 8 - (intOf i).toNat)
  case atStart => exact ⟨0, rfl, by omega, fun t h => by omega, 0, rfl⟩
  case round =>
    obtain ⟨j, rfl, hj, hst, q, rfl⟩ := hrel
    by_cases hlt : j < 8
    · obtain ⟨x, hx⟩ : ∃ x, k[j]? = some x := ⟨_, List.getElem?_eq_getElem (by omega)⟩
      obtain ⟨y, hy⟩ : ∃ y, l[j]? = some y := ⟨_, List.getElem?_eq_getElem (by omega)⟩
      obtain ⟨b1, o1, rfl, _, _, y0⟩ := Hr.out.at_i hx
      obtain ⟨b2, o2, rfl, _, _, z0⟩ := Hq.out.at_i hy
      have i1 : (0 : Int) ≤ (j : Int) := by omega
      have i2 : (j : Int) < (k.length : Int) := by omega
      have i3 : (j : Int) < (l.length : Int) := by omega
      have i4 : (j : Int) < 8 := by omega
      have Hx := Lib.hid hx
      have Hy := Lib.hid hy
      have Hst := Lib.hid hst
      clear hx hy hst
      rw [hk, hl] at *
      by_cases hxy : x = y
      · have hb : (x != y) = false := by simpa using hxy
        have Hxy := Lib.hid hxy
        clear hxy
        go_wp2
        go_quiet (fail)
        go_wp2
        go_roundw
        case rel => exact ⟨j + 1, by go_num, by omega, fun t ht => by
          by_cases h : t = j
          · rw [h, Hx.out, Hy.out, Hxy.out]
          · exact Hst.out t (by omega), _, rfl⟩
        case measure => simp [intOf]; omega
      · have hb : (x != y) = true := by simpa using hxy
        have hne : k ≠ l := fun e => by
          have := Hx.out
          rw [e, Hy.out] at this
          exact hxy (Option.some.inj this).symm
        have hr2 := HR.out
        rw [decide_eq_false hne] at hr2
        subst hr2
        clear hne hxy
        go_wp2
        go_quiet (fail)
        go_wp2
        go_ret
        exact ⟨rfl, _, World.drewN_drewN _ _ _⟩
    · have he : k = l := List.ext_getElem? fun t => by
        by_cases h : t < j
        · exact hst t h
        · rw [List.getElem?_eq_none (by omega), List.getElem?_eq_none (by omega)]
      have hr2 := HR.out
      rw [decide_eq_true he] at hr2
      subst hr2
      have Hj := Lib.hid hj
      have i4 : ¬ (j : Int) < 8 := by omega
      clear he hst hj
      go_wp2
      go_ret
      exact ⟨rfl, _, rfl⟩
end Go.Proofs.YtabcjdalifhpdaaDoor
