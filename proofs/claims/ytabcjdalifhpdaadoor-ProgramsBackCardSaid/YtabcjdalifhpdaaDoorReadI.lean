/- The walk of the reader of bytes: an instruction. Condition: the table of operators holds what the program's text lays there. -/
import Derived.Test.YtabcjdalifhpdaaDoorReadN
import Derived.Test.YtabcjdalifhpdaaDoorEncode
namespace Go.Proofs.YtabcjdalifhpdaaDoor
open Go.RowKit

theorem low_three (k : Nat) (h : k < 4611686018427387904) : bits .and .i64 (k : Int) 7 = ((k % 8 : Nat) : Int) := by
  have := bits_and_i64_nat k 7 h (by omega)
  rw [show k &&& 7 = k % 8 from Nat.and_two_pow_sub_one_eq_mod k 3] at this
  exact this
/-- Four cells are stored. -/
def W4 (w : World) (b : Nat) (u0 u1 u2 u3 : Value) : World := (((w.setCell ⟨b, 0, none⟩ u0).setCell ⟨b, 1, none⟩ u1).setCell ⟨b, 2, none⟩ u2).setCell ⟨b, 3, none⟩ u3
theorem W4.blk {w : World} {b : Nat} {x0 x1 x2 x3 u0 u1 u2 u3 : Value} {t : TypeId} (h : w.heap[b]? = some (.cells #[x0, x1, x2, x3] t (0, 0))) : (W4 w b u0 u1 u2 u3).heap[b]? = some (.cells #[u0, u1, u2, u3] t (0, 0)) := by
  unfold W4
  exact blk_set (blk_set (blk_set (blk_set h _) _) _) _
theorem W4.other {w : World} {b b' : Nat} {u0 u1 u2 u3 : Value} (h : b' ≠ b) : (W4 w b u0 u1 u2 u3).heap[b']? = w.heap[b']? := by
  unfold W4
  exact (Below.heap_setCell _ _ _ _ h).trans ((Below.heap_setCell _ _ _ _ h).trans ((Below.heap_setCell _ _ _ _ h).trans (Below.heap_setCell _ _ _ _ h)))
theorem Only.setNew {g : Nat} {w w' : World} (h : Only g w w') (b k : Nat) (u : Value) (hb : w.heap.size ≤ b) : Only g w (w'.setCell ⟨b, k, none⟩ u) :=
  ⟨h.os, h.tape, h.output, by simpa using h.size, fun b' hb' hne => (Below.heap_setCell _ _ _ _ (show b' ≠ b by omega)).trans (h.block b' hb' hne)⟩
theorem Only.W4 {g : Nat} {w w' : World} (h : Only g w w') (b : Nat) (u0 u1 u2 u3 : Value) (hb : w.heap.size ≤ b) : Only g w (Go.Proofs.YtabcjdalifhpdaaDoor.W4 w' b u0 u1 u2 u3) :=
  (((h.setNew b 0 u0 hb).setNew b 1 u1 hb).setNew b 2 u2 hb).setNew b 3 u3 hb
theorem Only.alloc {g : Nat} {w w' : World} (h : Only g w w') (o : Obj) : Only g w (w'.alloc o) :=
  ⟨h.os, h.tape, h.output, by have := h.size; simp; omega, fun b hb hne => (Below.heap_alloc _ _ _ (Nat.lt_of_lt_of_le hb h.size)).trans (h.block b hb hne)⟩

/-- How the reader stands: bytes before it, or something is wrong. -/
def Stands {α : Type} (w : World) (g : Nat) (S : Nat → Prop) (r : Except Int (α × List Int)) (P : α → Prop) : Prop := ReadTo (fun e => ∃ v', rdr w g v' e) (RdrAt w g S) r P
theorem Stands.keep {α : Type} {w w' : World} {g : Nat} {S : Nat → Prop} {r : Except Int (α × List Int)} {P : α → Prop} (h : Stands w g S r P) (hg : w'.heap[g]? = w.heap[g]?) (hS : ∀ b, S b → w'.heap[b]? = w.heap[b]?) : Stands w' g S r P := by
  unfold Stands ReadTo at *
  split at h
  · obtain ⟨h1, v, h2⟩ := h
    exact ⟨h1, v, hg.trans h2⟩
  · obtain ⟨h1, l, h2, v, h3, h4⟩ := h
    exact ⟨h1, l, h2, v, hg.trans h3, h4.keep (by decide) (fun b _ hb => ⟨hb, hS b hb⟩)⟩
theorem RdrAt.sub {w w' : World} {g : Nat} {S S' : Nat → Prop} {l : List UInt8} (h : RdrAt w g S l) (hg : w'.heap[g]? = w.heap[g]?) (hS : ∀ b, b < w.heap.size → S b → S' b ∧ w'.heap[b]? = w.heap[b]?) : RdrAt w' g S' l := by
  obtain ⟨v, h1, h2⟩ := h
  exact ⟨v, hg.trans h1, h2.keep (by decide) hS⟩
theorem Stands.wide {α : Type} {w : World} {g : Nat} {S S' : Nat → Prop} {r : Except Int (α × List Int)} {P : α → Prop} (h : Stands w g S r P) (hS : ∀ b, S b → S' b) : Stands w g S' r P := by
  unfold Stands ReadTo at *
  split at h
  · exact h
  · obtain ⟨h1, l, h2, h3⟩ := h
    exact ⟨h1, l, h2, h3.sub rfl (fun b _ hb => ⟨hS b hb, rfl⟩)⟩
theorem rdr_lt {w : World} {g : Nat} {v : Value} {e : Int} (h : rdr w g v e) : g < w.heap.size := lt_of_blk h
theorem RdrAt.lt {w : World} {g : Nat} {S : Nat → Prop} {l : List UInt8} (h : RdrAt w g S l) : g < w.heap.size := by obtain ⟨v, h, -⟩ := h; exact rdr_lt h
theorem UsesAt.only {w w' : World} {g : Nat} (h : UsesAt w) (ho : Only g w w') (hg : g ≠ 0) : UsesAt w' := h.keep (ho.block _ h.lt (Ne.symm hg))
set_option maxHeartbeats 1000000 in
theorem numberR_bad (g : Nat) (v : Value) (e : Int) (w : World) (h : rdr w g v e) (he : (e == 0) = false) : Calls Tryd.prog 109 #[.pointer (some ⟨g, 0, none⟩)] w fun en w' => en = .returned (.int .i64 0) ∧ w = w' := by
  have c1 : w.cell? ⟨g, 1, none⟩ = some (.int .i64 e) := cell_of_row w _ 1 _ _ _ h
  have e1 : bits .and .i64 0 1 = 0 := by decide
  clear h
  go_enter Tryd.func109, Tryd.ntmps109
  go_wp2_with fail
  go_loopw [3, 4] (fun a b wr => a = .int .i64 0 ∧ b = .int .i64 0 ∧ wr = w) (fun _ _ _ => 0)
  case atStart => exact ⟨rfl, rfl, rfl⟩
  case round =>
    obtain ⟨rfl, rfl, hw⟩ := hrel
    rw [hw]
    go_wp2_with fail
    go_ret
    exact ⟨rfl, rfl⟩
theorem instr_none : instrF (I8 []) = .error 5 := rfl
theorem instr_far {x : UInt8} {l : List UInt8} (h : 19 < (x.toNat : Int)) : instrF (I8 (x :: l)) = .error 3 := by
  rw [I8, List.map_cons, instrF, if_pos h]
theorem instr_regs {x : UInt8} {l : List UInt8} (h : ¬ 19 < (x.toNat : Int)) {e : Int} (hr : regsF x.toNat (I8 l) = .error e) : instrF (I8 (x :: l)) = .error e := by
  rw [I8, List.map_cons, instrF, if_neg h]
  show (match regsF x.toNat (I8 l) with | .error e => _ | .ok ((a, b), l) => _) = _
  rw [hr]
theorem instr_next {x : UInt8} {l l1 : List UInt8} (h : ¬ 19 < (x.toNat : Int)) {a b : Int} (hr : regsF x.toNat (I8 l) = .ok ((a, b), I8 l1)) : instrF (I8 (x :: l)) = match nextF x.toNat (I8 l1) with | .error e => .error e | .ok (n, l) => .ok (⟨x.toNat, a, b, n⟩, l) := by
  rw [I8, List.map_cons, instrF, if_neg h]
  show (match regsF x.toNat (I8 l) with | .error e => _ | .ok ((a, b), l) => _) = _
  rw [hr]
  rfl
set_option maxRecDepth 100000 in
set_option maxHeartbeats 4000000 in
theorem instrR_any (g : Nat) (S : Nat → Prop) (hg : ¬ S g) (l : List UInt8) (w : World) (h : RdrAt w g S l) (hu : UsesAt w) (hgu : g ≠ 0) :
    Calls Tryd.prog 80 #[.pointer (some ⟨g, 0, none⟩)] w fun en w' => ∃ op a b n, en = .returned (.agg #[.int .i64 op, .int .i64 a, .int .i64 b, .int .i64 n]) ∧ Only g w w' ∧
      Stands w' g S (instrF (I8 l)) (fun i => i = ⟨op, a, b, n⟩) := by
  obtain ⟨T, hT⟩ : ∃ T : Nat → Prop, T = fun b => S b ∧ b < w.heap.size := ⟨_, rfl⟩
  have hgT : ¬ T g := by rw [hT]; exact fun h => hg h.1
  have hTw : ∀ b, T b → b < w.heap.size := by rw [hT]; exact fun b h => h.2
  have hgw := h.lt
  have Hst : ∀ (w' : World) (i : Ins), Stands w' g T (instrF (I8 l)) (fun j => j = i) → Stands w' g S (instrF (I8 l)) (fun j => j = i) := fun w' i hs => hs.wide (by rw [hT]; exact fun b h => h.1)
  have Hh := Lib.hid (h.sub (S' := T) rfl (fun b hb hS => ⟨by rw [hT]; exact ⟨hS, hb⟩, rfl⟩))
  have Hu := Lib.hid hu
  have HST := Lib.hid Hst
  have HTw := Lib.hid hTw
  clear h hT hu Hst hTw hg
  have Ho0 : Only g w (w.alloc (.cells #[.int .i64 0, .int .i64 0, .int .i64 0, .int .i64 0] 42)) := (Only.refl g w).alloc _
  have hb2 : (w.alloc (.cells #[.int .i64 0, .int .i64 0, .int .i64 0, .int .i64 0] 42)).heap[w.heap.size]? = some (.cells #[.int .i64 0, .int .i64 0, .int .i64 0, .int .i64 0] 42 (0, 0)) := heap_alloc_new w _
  have hz0 : w.heap.size + 1 = (w.alloc (.cells #[.int .i64 0, .int .i64 0, .int .i64 0, .int .i64 0] 42)).heap.size := by simp
  have Hh0 := Lib.hid (Hh.out.sub (S' := T) (w' := w.alloc (.cells #[.int .i64 0, .int .i64 0, .int .i64 0, .int .i64 0] 42)) (Below.heap_alloc _ _ _ hgw) (fun b hb hS => ⟨hS, Below.heap_alloc _ _ _ hb⟩))
  go_enter Tryd.func80, Tryd.ntmps80
  go_upto_region 1 with fail
  generalize w.alloc (.cells #[.int .i64 0, .int .i64 0, .int .i64 0, .int .i64 0] 42) = W0 at *
  have Ho0' := Lib.hid Ho0
  have Hb2 := Lib.hid hb2
  obtain ⟨b2, hbb⟩ : ∃ b2, w.heap.size = b2 := ⟨_, rfl⟩
  rw [hbb] at Hb2 hz0 ⊢
  have hgb2 : g ≠ b2 := by omega
  clear Ho0 hb2
  rcases l with _ | ⟨x, l⟩
  · have G := Lib.hid (byte_no g T W0 Hh0.out)
    go_wp2_with fail
    refine G.out.mono ?_
    rintro en w1 ⟨rfl, ho1, v1, hd1⟩
    have hb3 : (w1.alloc (.cells #[.int .i64 0, .int .i64 0, .int .i64 0, .int .i64 0] 42)).heap[w1.heap.size]? = some (.cells #[.int .i64 0, .int .i64 0, .int .i64 0, .int .i64 0] 42 (0, 0)) := heap_alloc_new w1 _
    have Ho1 := Lib.hid ((Ho0'.out.trans ho1).alloc (.cells #[.int .i64 0, .int .i64 0, .int .i64 0, .int .i64 0] 42))
    have hz1 := ho1.size
    have hg1 : g < w1.heap.size := rdr_lt hd1
    have Hd1 := Lib.hid (show rdr (w1.alloc (.cells #[.int .i64 0, .int .i64 0, .int .i64 0, .int .i64 0] 42)) g v1 _ from (Below.heap_alloc _ _ _ hg1).trans hd1)
    replace Hb2 := Lib.hid ((Below.heap_alloc w1 (.cells #[.int .i64 0, .int .i64 0, .int .i64 0, .int .i64 0] 42) _ (by omega)).trans ((ho1.block b2 (by omega) (Ne.symm hgb2)).trans Hb2.out))
    have HK : ∀ b, b < w1.heap.size → (w1.alloc (.cells #[.int .i64 0, .int .i64 0, .int .i64 0, .int .i64 0] 42)).heap[b]? = w1.heap[b]? := fun b hb => Below.heap_alloc _ _ _ hb
    have hzz : w1.heap.size < (w1.alloc (.cells #[.int .i64 0, .int .i64 0, .int .i64 0, .int .i64 0] 42)).heap.size := by simp
    clear ho1 hd1 G
    go_upto_region 2 with fail
    generalize w1.alloc (.cells #[.int .i64 0, .int .i64 0, .int .i64 0, .int .i64 0] 42) = W1 at *
    have Hb3 := Lib.hid hb3
    clear hb3
    obtain ⟨b3, hbb3⟩ : ∃ b3, w1.heap.size = b3 := ⟨_, rfl⟩
    rw [hbb3] at Hb3 hzz ⊢
    have hgb3 : g ≠ b3 := by omega
    have hbn : b2 ≠ b3 := by omega
    have o0 : W1.cell? ⟨b3, 0, none⟩ = some (.int .i64 0) := cell_of_row W1 _ 0 _ _ _ Hb3.out
    have o1 : True := trivial
    have o2 : True := trivial
    have o3 : True := trivial
    have g0 : True := trivial
    have c1 : W1.cell? ⟨g, 1, none⟩ = some (.int .i64 5) := cell_of_row W1 _ 1 _ _ _ Hd1.out
    have y0 : W1.cell? ⟨b3, 0, none⟩ = some (.int .i64 0) := cell_of_row W1 _ 0 _ _ _ Hb3.out
    have y1 : W1.cell? ⟨b3, 1, none⟩ = some (.int .i64 0) := cell_of_row W1 _ 1 _ _ _ Hb3.out
    have y2 : W1.cell? ⟨b3, 2, none⟩ = some (.int .i64 0) := cell_of_row W1 _ 2 _ _ _ Hb3.out
    have y3 : W1.cell? ⟨b3, 3, none⟩ = some (.int .i64 0) := cell_of_row W1 _ 3 _ _ _ Hb3.out
    have fz : ∀ i, W1.frozen? ⟨b2, i, none⟩ = false := fun i => by have := Hb2.out; simp [World.frozen?, this]
    have HS := Lib.hid (show Stands W1 g T (instrF (I8 [])) (fun i => i = ⟨0, 0, 0, 0⟩) from by unfold Stands; exact ⟨by decide, v1, Hd1.out⟩)
    have hb2s : b2 < W1.heap.size := lt_of_blk Hb2.out
    have q0 : W1.cell? ⟨b2, 0, none⟩ = some (.int .i64 0) := cell_of_row W1 _ 0 _ _ _ Hb2.out
    have q1 : W1.cell? ⟨b2, 1, none⟩ = some (.int .i64 0) := cell_of_row W1 _ 1 _ _ _ Hb2.out
    have q2 : W1.cell? ⟨b2, 2, none⟩ = some (.int .i64 0) := cell_of_row W1 _ 2 _ _ _ Hb2.out
    have q3 : W1.cell? ⟨b2, 3, none⟩ = some (.int .i64 0) := cell_of_row W1 _ 3 _ _ _ Hb2.out
    go_wp2_with fail
    have hw4 := W4.blk (u0 := .int .i64 0) (u1 := .int .i64 0) (u2 := .int .i64 0) (u3 := .int .i64 0) Hb2.out
    have z0 := cell_of_row _ _ 0 _ _ _ hw4
    have z1 := cell_of_row _ _ 1 _ _ _ hw4
    have z2 := cell_of_row _ _ 2 _ _ _ hw4
    have z3 := cell_of_row _ _ 3 _ _ _ hw4
    unfold W4 at z0 z1 z2 z3
    refine bodyPost_ret (v := .agg #[.int .i64 0, .int .i64 0, .int .i64 0, .int .i64 0]) (by simp [results, Tryd.results80, go_sem, z0, z1, z2, z3]) rfl ⟨_, _, _, _, rfl, ?_, HST.out _ _ (HS.out.keep (W4.other hgb2) (fun b hb => W4.other (by have := HTw.out b hb; omega)))⟩
    exact Only.W4 Ho1.out b2 _ _ _ _ (by omega)
  have G := Lib.hid (byte_ok g T hgT x l W0 Hh0.out)
  have hx256 := x.toNat_lt
  go_wp2_with fail
  refine G.out.mono ?_
  rintro en w1 ⟨rfl, ho1, v1, hd1, hr1⟩
  have hb3 : (w1.alloc (.cells #[.int .i64 x.toNat, .int .i64 0, .int .i64 0, .int .i64 0] 42)).heap[w1.heap.size]? = some (.cells #[.int .i64 x.toNat, .int .i64 0, .int .i64 0, .int .i64 0] 42 (0, 0)) := heap_alloc_new w1 _
  have Ho1 := Lib.hid ((Ho0'.out.trans ho1).alloc (.cells #[.int .i64 x.toNat, .int .i64 0, .int .i64 0, .int .i64 0] 42))
  have hz1 := ho1.size
  have hg1 : g < w1.heap.size := rdr_lt hd1
  have Hd1 := Lib.hid (show rdr (w1.alloc (.cells #[.int .i64 x.toNat, .int .i64 0, .int .i64 0, .int .i64 0] 42)) g v1 _ from (Below.heap_alloc _ _ _ hg1).trans hd1)
  replace Hb2 := Lib.hid ((Below.heap_alloc w1 (.cells #[.int .i64 x.toNat, .int .i64 0, .int .i64 0, .int .i64 0] 42) _ (by omega)).trans ((ho1.block b2 (by omega) (Ne.symm hgb2)).trans Hb2.out))
  have HK : ∀ b, b < w1.heap.size → (w1.alloc (.cells #[.int .i64 x.toNat, .int .i64 0, .int .i64 0, .int .i64 0] 42)).heap[b]? = w1.heap[b]? := fun b hb => Below.heap_alloc _ _ _ hb
  have hzz : w1.heap.size < (w1.alloc (.cells #[.int .i64 x.toNat, .int .i64 0, .int .i64 0, .int .i64 0] 42)).heap.size := by simp
  clear ho1 hd1 G
  go_upto_region 2 with fail
  generalize w1.alloc (.cells #[.int .i64 x.toNat, .int .i64 0, .int .i64 0, .int .i64 0] 42) = W1 at *
  have Hb3 := Lib.hid hb3
  clear hb3
  obtain ⟨b3, hbb3⟩ : ∃ b3, w1.heap.size = b3 := ⟨_, rfl⟩
  rw [hbb3] at Hb3 hzz ⊢
  have hgb3 : g ≠ b3 := by omega
  have hbn : b2 ≠ b3 := by omega
  have o0 : W1.cell? ⟨b3, 0, none⟩ = some (.int .i64 x.toNat) := cell_of_row W1 _ 0 _ _ _ Hb3.out
  have o1 : True := trivial
  have o2 : True := trivial
  have o3 : True := trivial
  have g0 : True := trivial
  have Hr1 := Lib.hid (hr1.keep (by decide) (S' := T) (w' := W1) (fun b hb hS => ⟨hS, HK b hb⟩))
  clear hr1
  have c1 : W1.cell? ⟨g, 1, none⟩ = some (.int .i64 0) := cell_of_row W1 _ 1 _ _ _ Hd1.out
  have f1 : ∀ i, W1.frozen? ⟨g, i, none⟩ = false := fun i => by have := Hd1.out; unfold rdr at this; simp [World.frozen?, this]
  by_cases hop : (19 : Int) < (x.toNat : Int)
  · have HE := Lib.hid (instr_far (l := l) hop)
    go_upto_region 4 with fail
    have Ho2 := Lib.hid (Ho1.out.set 1 (.int .i64 3))
    have Hd2 := Lib.hid (rdr_set Hd1.out 3)
    have Hb2' := Lib.hid ((Below.heap_setCell W1 ⟨g, 1, none⟩ (.int .i64 3) b2 (Ne.symm hgb2)).trans Hb2.out)
    have Hb3' := Lib.hid ((Below.heap_setCell W1 ⟨g, 1, none⟩ (.int .i64 3) b3 (Ne.symm hgb3)).trans Hb3.out)
    have hz2 : W1.heap.size = (W1.setCell ⟨g, 1, none⟩ (.int .i64 3)).heap.size := by simp
    replace Hb2 := Hb2'
    replace Hb3 := Hb3'
    clear c1 f1 Hb2' Hb3' Hr1 o0 o1 o2 o3 g0 HK
    generalize W1.setCell ⟨g, 1, none⟩ (.int .i64 3) = W2 at *
    have c1 : W2.cell? ⟨g, 1, none⟩ = some (.int .i64 3) := cell_of_row W2 _ 1 _ _ _ Hd2.out
    have y0 : W2.cell? ⟨b3, 0, none⟩ = some (.int .i64 x.toNat) := cell_of_row W2 _ 0 _ _ _ Hb3.out
    have y1 : W2.cell? ⟨b3, 1, none⟩ = some (.int .i64 0) := cell_of_row W2 _ 1 _ _ _ Hb3.out
    have y2 : W2.cell? ⟨b3, 2, none⟩ = some (.int .i64 0) := cell_of_row W2 _ 2 _ _ _ Hb3.out
    have y3 : W2.cell? ⟨b3, 3, none⟩ = some (.int .i64 0) := cell_of_row W2 _ 3 _ _ _ Hb3.out
    have fz : ∀ i, W2.frozen? ⟨b2, i, none⟩ = false := fun i => by have := Hb2.out; simp [World.frozen?, this]
    have HS := Lib.hid (show Stands W2 g T (instrF (I8 (x :: l))) (fun i => i = ⟨x.toNat, 0, 0, 0⟩) from by rw [HE.out]; unfold Stands; exact ⟨by decide, v1, Hd2.out⟩)
    have hb2s : b2 < W2.heap.size := lt_of_blk Hb2.out
    have q0 : W2.cell? ⟨b2, 0, none⟩ = some (.int .i64 0) := cell_of_row W2 _ 0 _ _ _ Hb2.out
    have q1 : W2.cell? ⟨b2, 1, none⟩ = some (.int .i64 0) := cell_of_row W2 _ 1 _ _ _ Hb2.out
    have q2 : W2.cell? ⟨b2, 2, none⟩ = some (.int .i64 0) := cell_of_row W2 _ 2 _ _ _ Hb2.out
    have q3 : W2.cell? ⟨b2, 3, none⟩ = some (.int .i64 0) := cell_of_row W2 _ 3 _ _ _ Hb2.out
    go_wp2_with fail
    have hw4 := W4.blk (u0 := .int .i64 x.toNat) (u1 := .int .i64 0) (u2 := .int .i64 0) (u3 := .int .i64 0) Hb2.out
    have z0 := cell_of_row _ _ 0 _ _ _ hw4
    have z1 := cell_of_row _ _ 1 _ _ _ hw4
    have z2 := cell_of_row _ _ 2 _ _ _ hw4
    have z3 := cell_of_row _ _ 3 _ _ _ hw4
    unfold W4 at z0 z1 z2 z3
    refine bodyPost_ret (v := .agg #[.int .i64 x.toNat, .int .i64 0, .int .i64 0, .int .i64 0]) (by simp [results, Tryd.results80, go_sem, z0, z1, z2, z3]) rfl ⟨_, _, _, _, rfl, ?_, HST.out _ _ (HS.out.keep (W4.other hgb2) (fun b hb => W4.other (by have := HTw.out b hb; omega)))⟩
    exact Only.W4 Ho2.out b2 _ _ _ _ (by omega)
  have hop0 : 0 ≤ (x.toNat : Int) ∧ (x.toNat : Int) ≤ 19 := by omega
  obtain ⟨u, hu1, hu2, hu3⟩ := uses_bits hop0
  rw [Int.toNat_natCast] at hu1
  have Hop := Lib.hid hop
  obtain ⟨xa, hxa⟩ : ∃ xa, aB (x.toNat : Int) = xa := ⟨_, rfl⟩
  obtain ⟨xb, hxb⟩ : ∃ xb, nB (x.toNat : Int) = xb := ⟨_, rfl⟩
  rw [hxa] at hu2
  rw [hxb] at hu3
  have Hxa := Lib.hid hxa
  have Hxb := Lib.hid hxb
  have Hu1 := Lib.hid hu1
  clear hxa hxb hu1
  have cu : W1.cell? ⟨0, x.toNat, none⟩ = some (.int .i64 u) := (Hu.out.only Ho1.out hgu) _ u Hu1.out
  have k0 : (0 : Int) ≤ (x.toNat : Int) := by omega
  have k1 : (x.toNat : Int) < 20 := by omega
  have hgb : g < b2 := by omega
  have hgub : 0 < b2 := by have := Hu.out.lt; omega
  generalize hxo : x.toNat = o at *
  have Hxo := Lib.hid hxo
  clear hxo
  go_upto_if 32 with fail
  go_cut [4] from 33 to 53 (fun _ wx => ∃ a b : Int, Only g w wx ∧ wx.heap[b2]? = some (.cells #[.int .i64 0, .int .i64 0, .int .i64 0, .int .i64 0] 42 (0, 0)) ∧
    wx.heap[b3]? = some (.cells #[.int .i64 o, .int .i64 a, .int .i64 b, .int .i64 0] 42 (0, 0)) ∧ Stands wx g T (regsF o (I8 l)) (fun ab => ab = (a, b)))
  case first =>
    cases xa
    · have hrg : regsF o (I8 l) = .ok ((0, 0), I8 l) := by unfold regsF; rw [Hxa.out]; rfl
      have HE := Lib.hid hrg
      clear hrg
      go_wp2_with fail
      go_meet
      exact ⟨0, 0, Ho1.out, Hb2.out, Hb3.out, by rw [HE.out]; exact ⟨rfl, l, rfl, v1, Hd1.out, Hr1.out⟩⟩
    · rcases l with _ | ⟨c, l⟩
      · have hrg : regsF o (I8 []) = .error 5 := by unfold regsF; rw [Hxa.out]; rfl
        have HE := Lib.hid hrg
        have G := Lib.hid (byte_no g T W1 ⟨v1, Hd1.out, Hr1.out⟩)
        have e7 : bits .and .i64 0 7 = 0 := by decide
        clear hrg
        go_wp2_with fail
        refine G.out.mono ?_
        rintro en w3 ⟨rfl, ho3, v3, hd3⟩
        have Ho3 := Lib.hid (Ho1.out.trans ho3)
        have Hd3 := Lib.hid hd3
        have c3 : w3.cell? ⟨g, 1, none⟩ = some (.int .i64 5) := cell_of_row w3 _ 1 _ _ _ hd3
        have Hb2' := Lib.hid ((ho3.block b2 (lt_of_blk Hb2.out) (Ne.symm hgb2)).trans Hb2.out)
        have Hb3' := Lib.hid ((ho3.block b3 (lt_of_blk Hb3.out) (Ne.symm hgb3)).trans Hb3.out)
        have f3 : ∀ i, w3.frozen? ⟨b3, i, none⟩ = false := fun i => by have := Hb3'.out; simp [World.frozen?, this]
        have hb3w : b3 < w3.heap.size := lt_of_blk Hb3'.out
        have o4 : w3.cell? ⟨b3, 1, none⟩ = some (.int .i64 0) := cell_of_row w3 _ 1 _ _ _ Hb3'.out
        have o5 : w3.cell? ⟨b3, 2, none⟩ = some (.int .i64 0) := cell_of_row w3 _ 2 _ _ _ Hb3'.out
        clear G ho3 hd3 c1 f1 cu o0 o1 o2 o3 g0 HK
        go_wp2_with fail
        go_meet
        refine ⟨0, 0, (Ho3.out.setNew b3 1 _ (by omega)).setNew b3 2 _ (by omega), ?_, ?_, ?_⟩
        · exact (Below.heap_setCell _ _ _ _ hbn).trans ((Below.heap_setCell _ _ _ _ hbn).trans Hb2'.out)
        · exact blk_set (blk_set Hb3'.out _) _
        · rw [HE.out]
          exact ⟨by decide, v3, (Below.heap_setCell _ _ _ _ hgb3).trans ((Below.heap_setCell _ _ _ _ hgb3).trans Hd3.out)⟩
      · have hc256 := c.toNat_lt
        have hrg : regsF o (I8 (c :: l)) = if 63 < (c.toNat : Int) then .error 4 else .ok (((c.toNat : Int) % 8, (c.toNat : Int) / 8), I8 l) := by unfold regsF; rw [Hxa.out]; rfl
        have G := Lib.hid (byte_ok g T hgT c l W1 ⟨v1, Hd1.out, Hr1.out⟩)
        have e7 := low_three c.toNat (by omega)
        have e8 := low_three (c.toNat / 8) (by omega)
        have e9 : ((c.toNat / 8 : Nat) : Int) = (c.toNat : Int) / 8 := by omega
        rw [e9] at e8
        have HRG := Lib.hid hrg
        clear hrg e9
        go_wp2_with fail
        refine G.out.mono ?_
        rintro en w3 ⟨rfl, ho3, v3, hd3, hr3⟩
        have Ho3 := Lib.hid (Ho1.out.trans ho3)
        have Hd3 := Lib.hid hd3
        have Hr3 := Lib.hid hr3
        have c3 : w3.cell? ⟨g, 1, none⟩ = some (.int .i64 0) := cell_of_row w3 _ 1 _ _ _ hd3
        have f4 : ∀ i, w3.frozen? ⟨g, i, none⟩ = false := fun i => by have := Hd3.out; unfold rdr at this; simp [World.frozen?, this]
        have Hb2' := Lib.hid ((ho3.block b2 (lt_of_blk Hb2.out) (Ne.symm hgb2)).trans Hb2.out)
        have Hb3' := Lib.hid ((ho3.block b3 (lt_of_blk Hb3.out) (Ne.symm hgb3)).trans Hb3.out)
        have f3 : ∀ i, w3.frozen? ⟨b3, i, none⟩ = false := fun i => by have := Hb3'.out; simp [World.frozen?, this]
        have hb3w : b3 < w3.heap.size := lt_of_blk Hb3'.out
        have o4 : w3.cell? ⟨b3, 1, none⟩ = some (.int .i64 0) := cell_of_row w3 _ 1 _ _ _ Hb3'.out
        have o5 : w3.cell? ⟨b3, 2, none⟩ = some (.int .i64 0) := cell_of_row w3 _ 2 _ _ _ Hb3'.out
        clear G ho3 hd3 hr3 c1 f1 cu o0 o1 o2 o3 g0 HK
        by_cases h63 : (63 : Int) < (c.toNat : Int)
        · have HE := Lib.hid (HRG.out.trans (if_pos h63))
          go_wp2_with fail
          go_meet
          refine ⟨(c.toNat : Int) % 8, (c.toNat : Int) / 8 % 8, ((Ho3.out.set 1 (.int .i64 4)).setNew b3 1 _ (by omega)).setNew b3 2 _ (by omega), ?_, ?_, ?_⟩
          · exact (Below.heap_setCell _ _ _ _ hbn).trans ((Below.heap_setCell _ _ _ _ hbn).trans ((Below.heap_setCell _ _ _ _ (Ne.symm hgb2)).trans Hb2'.out))
          · exact blk_set (blk_set ((Below.heap_setCell _ _ _ _ (Ne.symm hgb3)).trans Hb3'.out) _) _
          · rw [HE.out]
            exact ⟨by decide, v3, (Below.heap_setCell _ _ _ _ hgb3).trans ((Below.heap_setCell _ _ _ _ hgb3).trans (rdr_set Hd3.out 4))⟩
        · have HE := Lib.hid (HRG.out.trans (if_neg h63))
          have hc8 : (((c.toNat / 8 % 8 : Nat)) : Int) = (c.toNat : Int) / 8 := by omega
          have hc9 : ((c.toNat % 8 : Nat) : Int) = (c.toNat : Int) % 8 := by omega
          have HC8 := Lib.hid hc8
          have HC9 := Lib.hid hc9
          clear hc8 hc9
          go_wp2_with fail
          go_meet
          refine ⟨(c.toNat : Int) % 8, (c.toNat : Int) / 8 % 8, (Ho3.out.setNew b3 1 _ (by omega)).setNew b3 2 _ (by omega), ?_, ?_, ?_⟩
          · exact (Below.heap_setCell _ _ _ _ hbn).trans ((Below.heap_setCell _ _ _ _ hbn).trans Hb2'.out)
          · exact blk_set (blk_set Hb3'.out _) _
          · rw [HE.out]
            refine ⟨by rw [show (c.toNat : Int) / 8 % 8 = (c.toNat : Int) / 8 by omega], l, rfl, v3, (Below.heap_setCell _ _ _ _ hgb3).trans ((Below.heap_setCell _ _ _ _ hgb3).trans Hd3.out), Hr3.out.keep (by decide) (fun b hb hS => ⟨hS, ?_⟩)⟩
            have := HTw.out b hS
            exact (Below.heap_setCell _ _ _ _ (show b ≠ b3 by omega)).trans (Below.heap_setCell _ _ _ _ (show b ≠ b3 by omega))
  case rest =>
  obtain ⟨a, b, ho5, hb25, hb35, hst5⟩ := hcut
  have Ho5 := Lib.hid ho5
  have Hb25 := Lib.hid hb25
  have Hb35 := Lib.hid hb35
  have cu : wc.cell? ⟨0, o, none⟩ = some (.int .i64 u) := (Hu.out.only ho5 hgu) _ u Hu1.out
  have d0 : wc.cell? ⟨b3, 0, none⟩ = some (.int .i64 o) := cell_of_row wc _ 0 _ _ _ hb35
  have hb3w : b3 < wc.heap.size := lt_of_blk hb35
  clear ho5 hb25 hb35 c1 f1 Hb2 Hb3 Hd1 Hr1 o0 o1 o2 o3 g0 HK
  cases xb
  · have hE : Stands wc g T (instrF (I8 (x :: l))) (fun i => i = ⟨o, a, b, 0⟩) := by
      unfold Stands ReadTo at hst5
      split at hst5
      · rename_i e he
        rw [← Hxo.out] at he
        rw [instr_regs (by rw [Hxo.out]; exact Hop.out) he]
        exact hst5
      · rename_i ab t he
        obtain ⟨rfl, l1, rfl, hg1⟩ := hst5
        rw [← Hxo.out] at he
        rw [instr_next (by rw [Hxo.out]; exact Hop.out) he]
        have hnx : nextF x.toNat (I8 l1) = .ok (0, I8 l1) := by unfold nextF; rw [Hxo.out, Hxb.out]; rfl
        rw [hnx, Hxo.out]
        exact ⟨rfl, l1, rfl, hg1⟩
    have HE := Lib.hid hE
    clear hE hst5
    have Hb2 := Hb25
    have hcd : True := trivial
    have y0 : wc.cell? ⟨b3, 0, none⟩ = some (.int .i64 o) := cell_of_row wc _ 0 _ _ _ Hb35.out
    have y1 : wc.cell? ⟨b3, 1, none⟩ = some (.int .i64 a) := cell_of_row wc _ 1 _ _ _ Hb35.out
    have y2 : wc.cell? ⟨b3, 2, none⟩ = some (.int .i64 b) := cell_of_row wc _ 2 _ _ _ Hb35.out
    have y3 : wc.cell? ⟨b3, 3, none⟩ = some (.int .i64 0) := cell_of_row wc _ 3 _ _ _ Hb35.out
    have fz : ∀ i, wc.frozen? ⟨b2, i, none⟩ = false := fun i => by have := Hb2.out; simp [World.frozen?, this]
    have HS := Lib.hid (show Stands wc g T (instrF (I8 (x :: l))) (fun i => i = ⟨o, a, b, 0⟩) from HE.out)
    have hb2s : b2 < wc.heap.size := lt_of_blk Hb2.out
    have q0 : wc.cell? ⟨b2, 0, none⟩ = some (.int .i64 0) := cell_of_row wc _ 0 _ _ _ Hb2.out
    have q1 : wc.cell? ⟨b2, 1, none⟩ = some (.int .i64 0) := cell_of_row wc _ 1 _ _ _ Hb2.out
    have q2 : wc.cell? ⟨b2, 2, none⟩ = some (.int .i64 0) := cell_of_row wc _ 2 _ _ _ Hb2.out
    have q3 : wc.cell? ⟨b2, 3, none⟩ = some (.int .i64 0) := cell_of_row wc _ 3 _ _ _ Hb2.out
    go_wp2_with fail
    have hw4 := W4.blk (u0 := .int .i64 o) (u1 := .int .i64 a) (u2 := .int .i64 b) (u3 := .int .i64 0) Hb2.out
    have z0 := cell_of_row _ _ 0 _ _ _ hw4
    have z1 := cell_of_row _ _ 1 _ _ _ hw4
    have z2 := cell_of_row _ _ 2 _ _ _ hw4
    have z3 := cell_of_row _ _ 3 _ _ _ hw4
    unfold W4 at z0 z1 z2 z3
    refine bodyPost_ret (v := .agg #[.int .i64 o, .int .i64 a, .int .i64 b, .int .i64 0]) (by simp [results, Tryd.results80, go_sem, z0, z1, z2, z3]) rfl ⟨_, _, _, _, rfl, ?_, HST.out _ _ (HS.out.keep (W4.other hgb2) (fun b hb => W4.other (by have := HTw.out b hb; omega)))⟩
    exact Only.W4 Ho5.out b2 _ _ _ _ (by omega)
  · unfold Stands ReadTo at hst5
    split at hst5
    · rename_i e he
      obtain ⟨he0, v5, hd5⟩ := hst5
      have HE := Lib.hid (show instrF (I8 (x :: l)) = .error e by rw [← Hxo.out] at he; exact instr_regs (by rw [Hxo.out]; exact Hop.out) he)
      have G := Lib.hid (numberR_bad g v5 e wc hd5 (by simpa using he0))
      have Hd5 := Lib.hid hd5
      clear hd5 he
      go_wp2_with fail
      refine G.out.mono ?_
      rintro en w7 ⟨rfl, rfl⟩
      clear G
      have hb3w' : b3 < wc.heap.size := lt_of_blk Hb35.out
      have fz3 : ∀ i, wc.frozen? ⟨b3, i, none⟩ = false := fun i => by have := Hb35.out; simp [World.frozen?, this]
      have hX3 : (wc.setCell ⟨b3, 3, none⟩ (.int .i64 0)).heap[b3]? = some (.cells #[.int .i64 o, .int .i64 a, .int .i64 b, .int .i64 0] 42 (0, 0)) := blk_set Hb35.out _
      have hX2 : (wc.setCell ⟨b3, 3, none⟩ (.int .i64 0)).heap[b2]? = some (.cells #[.int .i64 0, .int .i64 0, .int .i64 0, .int .i64 0] 42 (0, 0)) := (Below.heap_setCell _ _ _ _ hbn).trans Hb25.out
      have hXo : Only g w (wc.setCell ⟨b3, 3, none⟩ (.int .i64 0)) := Ho5.out.setNew b3 3 _ (by omega)
      have hXk : ∀ b, b ≠ b3 → (wc.setCell ⟨b3, 3, none⟩ (.int .i64 0)).heap[b]? = wc.heap[b]? := fun b hb => Below.heap_setCell _ _ _ _ hb
      have hXs : (wc.setCell ⟨b3, 3, none⟩ (.int .i64 0)).heap.size = wc.heap.size := by simp
      have d3 : wc.cell? ⟨b3, 3, none⟩ = some (.int .i64 0) := cell_of_row wc _ 3 _ _ _ Hb35.out
      go_upto_region 13 with fail
      generalize wc.setCell ⟨b3, 3, none⟩ (.int .i64 0) = W8 at *
      clear fz3 d3 d0
      have Hb2 := Lib.hid hX2
      have HX3 := Lib.hid hX3
      have y0 : W8.cell? ⟨b3, 0, none⟩ = some (.int .i64 o) := cell_of_row W8 _ 0 _ _ _ hX3
      have y1 : W8.cell? ⟨b3, 1, none⟩ = some (.int .i64 a) := cell_of_row W8 _ 1 _ _ _ hX3
      have y2 : W8.cell? ⟨b3, 2, none⟩ = some (.int .i64 b) := cell_of_row W8 _ 2 _ _ _ hX3
      have y3 : W8.cell? ⟨b3, 3, none⟩ = some (.int .i64 0) := cell_of_row W8 _ 3 _ _ _ hX3
      have fz : ∀ i, W8.frozen? ⟨b2, i, none⟩ = false := fun i => by have := Hb2.out; simp [World.frozen?, this]
      have hb2s : b2 < W8.heap.size := lt_of_blk Hb2.out
      have q0 : W8.cell? ⟨b2, 0, none⟩ = some (.int .i64 0) := cell_of_row W8 _ 0 _ _ _ Hb2.out
      have q1 : W8.cell? ⟨b2, 1, none⟩ = some (.int .i64 0) := cell_of_row W8 _ 1 _ _ _ Hb2.out
      have q2 : W8.cell? ⟨b2, 2, none⟩ = some (.int .i64 0) := cell_of_row W8 _ 2 _ _ _ Hb2.out
      have q3 : W8.cell? ⟨b2, 3, none⟩ = some (.int .i64 0) := cell_of_row W8 _ 3 _ _ _ Hb2.out
      have HXo := Lib.hid hXo
      have HXk := Lib.hid hXk
      clear hX2 hX3 hXo hXk
      go_wp2_with fail
      have hw4 := W4.blk (u0 := .int .i64 o) (u1 := .int .i64 a) (u2 := .int .i64 b) (u3 := .int .i64 0) Hb2.out
      have z0 := cell_of_row _ _ 0 _ _ _ hw4
      have z1 := cell_of_row _ _ 1 _ _ _ hw4
      have z2 := cell_of_row _ _ 2 _ _ _ hw4
      have z3 := cell_of_row _ _ 3 _ _ _ hw4
      unfold W4 at z0 z1 z2 z3
      refine bodyPost_ret (v := .agg #[.int .i64 o, .int .i64 a, .int .i64 b, .int .i64 0]) (by simp [results, Tryd.results80, go_sem, z0, z1, z2, z3]) rfl ⟨_, _, _, _, rfl, Only.W4 HXo.out b2 _ _ _ _ (by omega), HST.out _ _ ?_⟩
      rw [HE.out]
      exact ⟨he0, v5, (W4.other hgb2).trans ((HXk.out _ hgb3).trans Hd5.out)⟩
    · rename_i ab t he
      obtain ⟨rfl, l1, rfl, hg1⟩ := hst5
      have HE := Lib.hid (show instrF (I8 (x :: l)) = (match nextF x.toNat (I8 l1) with | .error e => .error e | .ok (n, l) => .ok (⟨x.toNat, a, b, n⟩, l)) by rw [← Hxo.out] at he; exact instr_next (by rw [Hxo.out]; exact Hop.out) he)
      have G := Lib.hid (numberR_any g T hgT l1 wc hg1)
      have HNX := Lib.hid (show nextF x.toNat (I8 l1) = (match numF (I8 l1) 0 0 with | .error e => .error e | .ok (n, l) => .ok (unzz n, l)) by unfold nextF; rw [Hxo.out, Hxb.out]; rfl)
      clear he hg1
      go_wp2_with fail
      refine G.out.mono ?_
      rintro en w7 ⟨n, rfl, ho7, hst7⟩
      have Ho7 := Lib.hid (Ho5.out.trans ho7)
      have Hst7 := Lib.hid hst7
      have Hb27 := Lib.hid ((ho7.block b2 (lt_of_blk Hb25.out) (Ne.symm hgb2)).trans Hb25.out)
      have Hb37 := Lib.hid ((ho7.block b3 (lt_of_blk Hb35.out) (Ne.symm hgb3)).trans Hb35.out)
      clear G ho7 hst7 d0 cu
      replace Hb25 := Hb27
      replace Hb35 := Hb37
      have hb3w' : b3 < w7.heap.size := lt_of_blk Hb35.out
      have fz3 : ∀ i, w7.frozen? ⟨b3, i, none⟩ = false := fun i => by have := Hb35.out; simp [World.frozen?, this]
      have hX3 : (w7.setCell ⟨b3, 3, none⟩ (.int .i64 n)).heap[b3]? = some (.cells #[.int .i64 o, .int .i64 a, .int .i64 b, .int .i64 n] 42 (0, 0)) := blk_set Hb35.out _
      have hX2 : (w7.setCell ⟨b3, 3, none⟩ (.int .i64 n)).heap[b2]? = some (.cells #[.int .i64 0, .int .i64 0, .int .i64 0, .int .i64 0] 42 (0, 0)) := (Below.heap_setCell _ _ _ _ hbn).trans Hb25.out
      have hXo : Only g w (w7.setCell ⟨b3, 3, none⟩ (.int .i64 n)) := Ho7.out.setNew b3 3 _ (by omega)
      have hXk : ∀ b, b ≠ b3 → (w7.setCell ⟨b3, 3, none⟩ (.int .i64 n)).heap[b]? = w7.heap[b]? := fun b hb => Below.heap_setCell _ _ _ _ hb
      have hXs : (w7.setCell ⟨b3, 3, none⟩ (.int .i64 n)).heap.size = w7.heap.size := by simp
      have d3 : w7.cell? ⟨b3, 3, none⟩ = some (.int .i64 0) := cell_of_row w7 _ 3 _ _ _ Hb35.out
      go_upto_region 13 with fail
      generalize w7.setCell ⟨b3, 3, none⟩ (.int .i64 n) = W8 at *
      clear fz3 d3
      have Hb2 := Lib.hid hX2
      have HX3 := Lib.hid hX3
      have y0 : W8.cell? ⟨b3, 0, none⟩ = some (.int .i64 o) := cell_of_row W8 _ 0 _ _ _ hX3
      have y1 : W8.cell? ⟨b3, 1, none⟩ = some (.int .i64 a) := cell_of_row W8 _ 1 _ _ _ hX3
      have y2 : W8.cell? ⟨b3, 2, none⟩ = some (.int .i64 b) := cell_of_row W8 _ 2 _ _ _ hX3
      have y3 : W8.cell? ⟨b3, 3, none⟩ = some (.int .i64 n) := cell_of_row W8 _ 3 _ _ _ hX3
      have fz : ∀ i, W8.frozen? ⟨b2, i, none⟩ = false := fun i => by have := Hb2.out; simp [World.frozen?, this]
      have hb2s : b2 < W8.heap.size := lt_of_blk Hb2.out
      have q0 : W8.cell? ⟨b2, 0, none⟩ = some (.int .i64 0) := cell_of_row W8 _ 0 _ _ _ Hb2.out
      have q1 : W8.cell? ⟨b2, 1, none⟩ = some (.int .i64 0) := cell_of_row W8 _ 1 _ _ _ Hb2.out
      have q2 : W8.cell? ⟨b2, 2, none⟩ = some (.int .i64 0) := cell_of_row W8 _ 2 _ _ _ Hb2.out
      have q3 : W8.cell? ⟨b2, 3, none⟩ = some (.int .i64 0) := cell_of_row W8 _ 3 _ _ _ Hb2.out
      have HXo := Lib.hid hXo
      have HXk := Lib.hid hXk
      clear hX2 hX3 hXo hXk
      go_wp2_with fail
      have hw4 := W4.blk (u0 := .int .i64 o) (u1 := .int .i64 a) (u2 := .int .i64 b) (u3 := .int .i64 n) Hb2.out
      have z0 := cell_of_row _ _ 0 _ _ _ hw4
      have z1 := cell_of_row _ _ 1 _ _ _ hw4
      have z2 := cell_of_row _ _ 2 _ _ _ hw4
      have z3 := cell_of_row _ _ 3 _ _ _ hw4
      unfold W4 at z0 z1 z2 z3
      refine bodyPost_ret (v := .agg #[.int .i64 o, .int .i64 a, .int .i64 b, .int .i64 n]) (by simp [results, Tryd.results80, go_sem, z0, z1, z2, z3]) rfl ⟨_, _, _, _, rfl, Only.W4 HXo.out b2 _ _ _ _ (by omega), HST.out _ _ ?_⟩
      rw [HE.out, HNX.out]
      have hs := Hst7.out
      unfold ReadTo at hs
      split at hs
      · rename_i e he
        obtain ⟨he0, v7, hd7⟩ := hs
        rw [he]
        exact ⟨he0, v7, (W4.other hgb2).trans ((HXk.out _ hgb3).trans hd7)⟩
      · rename_i m t he
        obtain ⟨hm, l2, rfl, hg2⟩ := hs
        rw [he]
        exact ⟨by rw [hm, Hxo.out], l2, rfl, hg2.sub ((W4.other hgb2).trans (HXk.out _ hgb3)) (fun b hb hS => ⟨hS, (W4.other (by have := HTw.out b hS; omega)).trans (HXk.out b (by have := HTw.out b hS; omega))⟩)⟩
end Go.Proofs.YtabcjdalifhpdaaDoor
