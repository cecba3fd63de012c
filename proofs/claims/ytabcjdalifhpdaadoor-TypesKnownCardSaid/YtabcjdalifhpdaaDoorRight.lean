/- The walks of verify.right and verify.next. Condition: registers, the operator and places are in their bounds. -/
import Derived.Test.YtabcjdalifhpdaaDoorBehind
namespace Go.Proofs.YtabcjdalifhpdaaDoor
open Go.RowKit

/-- May an instruction be done with what is known? -/
def mayB (k : List Int) (i : Ins) : Bool :=
  if i.op = 0 then objB (at8 k 0)
  else if i.op = 2 ∨ i.op = 3 ∨ i.op = 4 then at8 k i.a == 1 && at8 k i.b == 1
  else if i.op = 5 ∨ i.op = 15 then at8 k i.a == 1
  else if i.op = 8 ∨ i.op = 10 then objB (at8 k i.b)
  else if i.op = 9 then objB (at8 k i.a) && at8 k i.b == 1
  else if i.op = 11 then objB (at8 k i.a) && objB (at8 k i.b)
  else if i.op = 12 then at8 k i.b != 0
  else if i.op = 13 then at8 k i.a == 3 && at8 k i.b == 1
  else if i.op = 14 then objB (at8 k i.a) && at8 k i.b == 1
  else if i.op = 17 then at8 k i.b == 3
  else true
/-- The outcome by what is known of the two registers and of the first one. -/
def mayO (x0 xa xb : Int) (op : Int) : Bool :=
  if op = 0 then objB x0
  else if op = 2 ∨ op = 3 ∨ op = 4 then xa == 1 && xb == 1
  else if op = 5 ∨ op = 15 then xa == 1
  else if op = 8 ∨ op = 10 then objB xb
  else if op = 9 then objB xa && xb == 1
  else if op = 11 then objB xa && objB xb
  else if op = 12 then xb != 0
  else if op = 13 then xa == 3 && xb == 1
  else if op = 14 then objB xa && xb == 1
  else if op = 17 then xb == 3
  else true
theorem mayB_O (k : List Int) (i : Ins) : mayB k i = mayO (at8 k 0) (at8 k i.a) (at8 k i.b) i.op := rfl

set_option maxRecDepth 100000 in
set_option maxHeartbeats 4000000 in
theorem right_any (k : List Int) (hk : k.length = 8) (op n : Int) (a b : Nat) (ho : 0 ≤ op ∧ op ≤ 19) (ha : a < 8) (hb : b < 8) (w : World) :
    Calls Tryd.prog 62 #[kv k, .agg #[.int .i64 op, .int .i64 a, .int .i64 b, .int .i64 n]] w fun e w' => e = .returned (.bool (mayB k ⟨op, a, b, n⟩)) ∧ Below w.heap.size w w' := by
  rw [mayB_O]
  have hx0 := at8_at (k := k) (a := 0) (by omega)
  have hxa := at8_at (k := k) (a := a) (by omega)
  have hxb := at8_at (k := k) (a := b) (by omega)
  have a1 : (0 : Int) ≤ (a : Int) := by omega
  have a2 : (a : Int) < 8 := by omega
  have b1 : (0 : Int) ≤ (b : Int) := by omega
  have b2 : (b : Int) < 8 := by omega
  obtain ⟨k0, k1, k2, k3, k4, k5, k6, k7, hkk⟩ := eight hk
  have hkv : kv k = .agg #[.int .i64 k0, .int .i64 k1, .int .i64 k2, .int .i64 k3, .int .i64 k4, .int .i64 k5, .int .i64 k6, .int .i64 k7] := by rw [hkk]; rfl
  have hkc : #[.int .i64 k0, .int .i64 k1, .int .i64 k2, .int .i64 k3, .int .i64 k4, .int .i64 k5, .int .i64 k6, .int .i64 k7] = kc k := by rw [hkk]; rfl
  rw [hkv]
  have Hkc := Lib.hid hkc
  show Calls _ _ _ _ (fun e w' => e = .returned (.bool (mayO (at8 k ((0 : Nat) : Int)) (at8 k (a : Int)) (at8 k (b : Int)) op)) ∧ Below w.heap.size w w')
  generalize at8 k ((0 : Nat) : Int) = x0 at *
  generalize at8 k (a : Int) = xa at *
  generalize at8 k (b : Int) = xb at *
  have hB : Below w.heap.size w ((w.alloc (.cells #[.int .i64 k0, .int .i64 k1, .int .i64 k2, .int .i64 k3, .int .i64 k4, .int .i64 k5, .int .i64 k6, .int .i64 k7] 119)).alloc (.cells #[.int .i64 op, .int .i64 a, .int .i64 b, .int .i64 n] 42)) := ((Below.refl _ _).alloc (Nat.le_refl _) _).alloc (by simp) _
  have HL := (((Locs.nil (w := w)).new (cs := #[.int .i64 k0, .int .i64 k1, .int .i64 k2, .int .i64 k3, .int .i64 k4, .int .i64 k5, .int .i64 k6, .int .i64 k7]) (t := 119) rfl).new (cs := #[.int .i64 op, .int .i64 a, .int .i64 b, .int .i64 n]) (t := 42) (n := w.heap.size + 1) (by simp))
  clear hkk hkv hkc
  have hm : ∃ m, mayO x0 xa xb op = m := ⟨_, rfl⟩
  obtain ⟨m, hm⟩ := hm
  rw [hm]
  rcases op_cases (show ¬ (op < 0 ∨ 19 < op) by omega) with rfl | rfl | rfl | rfl | rfl | rfl | rfl | rfl | rfl | rfl | rfl | rfl | rfl | rfl | rfl | rfl | rfl | rfl | rfl | rfl
  all_goals
    simp only [mayO, reduceIte, Int.reduceEq, or_true, or_false] at hm
    have Hm := Lib.hid hm
    clear hm
    go_enter Tryd.func62, Tryd.ntmps62
    go_upto_region 1 with fail
    generalize (w.alloc (.cells #[.int .i64 k0, .int .i64 k1, .int .i64 k2, .int .i64 k3, .int .i64 k4, .int .i64 k5, .int .i64 k6, .int .i64 k7] 119)).alloc (.cells #[.int .i64 _, .int .i64 a, .int .i64 b, .int .i64 n] 42) = W at *
    have c0 : W.cell? ⟨w.heap.size, 0, none⟩ = some (.int .i64 x0) := kc_cell (k := k) (t := 119) (by rw [← Hkc.out]; exact HL.at_ 1 rfl) hx0
    have ca : W.cell? ⟨w.heap.size, a, none⟩ = some (.int .i64 xa) := kc_cell (k := k) (t := 119) (by rw [← Hkc.out]; exact HL.at_ 1 rfl) hxa
    have cb : W.cell? ⟨w.heap.size, b, none⟩ = some (.int .i64 xb) := kc_cell (k := k) (t := 119) (by rw [← Hkc.out]; exact HL.at_ 1 rfl) hxb
    obtain ⟨r1, q1, -⟩ := HL.rules
    dsimp only at r1 q1
    clear hx0 hxa hxb HL
    go_wp2_with fail
    go_quiet (fail)
    go_wp2_with (refine (object_any _ _).mono ?_; rintro e w' ⟨rfl, rfl⟩)
    all_goals
      go_ret
      refine ⟨ret_bool ?_, below_drewN hB _⟩
      first | exact Hm.out | (rw [← Hm.out]; done) | (rw [← Hm.out]; simp_all; done)
/-- Where an instruction goes on: what the calls hand back. -/
def WaysD (w : World) (l : List Int) (en : Ending) (w' : World) : Prop := ∃ A c, en = .returned (.slice A l.length c) ∧ RdSl iE w' (fun b => w.heap.size ≤ b) (.slice A l.length c) l ∧ Below w.heap.size w w'
theorem ways_nil {w w' : World} (h : Below w.heap.size w w') : WaysD w [] (.returned (.slice none 0 0)) w' := ⟨none, 0, rfl, ⟨none, 0, rfl, Nat.le_refl _, Nat.zero_le _, by simp, fun h => absurd rfl h⟩, h⟩
theorem rd_i1 {w : World} {b n : Nat} {t : TypeId} {x : Int} (h : w.heap[b]? = some (.cells #[.int .i64 x] t (0, 0))) (hn : n ≤ b) : RdSl iE w (fun b => n ≤ b) (.slice (some ⟨b, 0, none⟩) 1 1) [x] :=
  ⟨_, 1, rfl, Nat.le_refl _, by decide, by show 1 * 8 ≤ _; decide, fun _ => ⟨b, 0, rfl, hn, fun i y hy => by
    match i, hy with
    | 0, hy => cases hy; exact ⟨[.int .i64 x], rfl, rfl, fun j u hu => by
        match j, hu with
        | 0, hu => cases hu; simp [World.cell?, h]⟩⟩⟩
theorem rd_i2 {w : World} {b n : Nat} {t : TypeId} {x y : Int} (h : w.heap[b]? = some (.cells #[.int .i64 x, .int .i64 y] t (0, 0))) (hn : n ≤ b) : RdSl iE w (fun b => n ≤ b) (.slice (some ⟨b, 0, none⟩) 2 2) [x, y] :=
  ⟨_, 2, rfl, Nat.le_refl _, by decide, by show 2 * 8 ≤ _; decide, fun _ => ⟨b, 0, rfl, hn, fun i z hz => by
    match i, hz with
    | 0, hz => cases hz; exact ⟨[.int .i64 x], rfl, rfl, fun j u hu => by
        match j, hu with
        | 0, hu => cases hu; simp [World.cell?, h]⟩
    | 1, hz => cases hz; exact ⟨[.int .i64 y], rfl, rfl, fun j u hu => by
        match j, hu with
        | 0, hu => cases hu; simp [World.cell?, h, iE]⟩⟩⟩

set_option maxHeartbeats 2000000 in
theorem next_any (t op a b n : Int) (ho : 0 ≤ op ∧ op ≤ 19) (ht : 0 ≤ t ∧ t < 1000) (hn : op = 5 ∨ op = 6 → -1000 ≤ n ∧ n ≤ 1000) (w : World) :
    Calls Tryd.prog 98 #[.int .i64 t, .agg #[.int .i64 op, .int .i64 a, .int .i64 b, .int .i64 n]] w (WaysD w (waysP t ⟨op, a, b, n⟩)) := by
  have hB : Below w.heap.size w (w.alloc (.cells #[.int .i64 op, .int .i64 a, .int .i64 b, .int .i64 n] 42)) := (Below.refl _ _).alloc (Nat.le_refl _) _
  have HL := Lib.hid ((Locs.nil (w := w)).new (cs := #[.int .i64 op, .int .i64 a, .int .i64 b, .int .i64 n]) (t := 42) rfl)
  have hz : (w.alloc (.cells #[.int .i64 op, .int .i64 a, .int .i64 b, .int .i64 n] 42)).heap.size = w.heap.size + 1 := by simp
  by_cases h0 : op = 0 ∨ op = 19
  · have hw : waysP t ⟨op, a, b, n⟩ = [] := if_pos h0
    rw [hw]
    clear hw hn
    rcases h0 with rfl | rfl
    all_goals
      go_enter Tryd.func98, Tryd.ntmps98
      go_wp2
      go_ret
      exact ways_nil hB
  · by_cases h6 : op = 6
    · subst h6
      have hw : waysP t ⟨6, a, b, n⟩ = [t + n] := rfl
      obtain ⟨n1, n2⟩ := hn (.inr rfl)
      rw [hw]
      clear hw hn h0
      go_enter Tryd.func98, Tryd.ntmps98
      go_wp2
      go_ret
      exact ⟨_, _, rfl, rd_i1 (blk_at (by simp)) (by simp), hB.alloc (by simp) _⟩
    · by_cases h5 : op = 5
      · subst h5
        have hw : waysP t ⟨5, a, b, n⟩ = [t + 1, t + n] := rfl
        obtain ⟨n1, n2⟩ := hn (.inl rfl)
        rw [hw]
        clear hw hn h0
        go_enter Tryd.func98, Tryd.ntmps98
        go_wp2
        go_ret
        exact ⟨_, _, rfl, rd_i2 (blk_at (by simp)) (by simp), hB.alloc (by simp) _⟩
      · have hw : waysP t ⟨op, a, b, n⟩ = [t + 1] := by
          show (if op = 0 ∨ op = 19 then _ else if op = 6 then _ else if op = 5 then _ else _) = _
          rw [if_neg h0, if_neg h6, if_neg h5]
        rw [hw]
        have b0 : (op == 0) = false := by simp; omega
        have b1 : (op == 19) = false := by simp; omega
        have b2 : (op == 6) = false := by simpa using h6
        have b3 : (op == 5) = false := by simpa using h5
        clear hw hn h0 h6 h5
        go_enter Tryd.func98, Tryd.ntmps98
        go_wp2
        go_ret
        exact ⟨_, _, rfl, rd_i1 (blk_at (by simp)) (by simp), hB.alloc (by simp) _⟩
end Go.Proofs.YtabcjdalifhpdaaDoor
