/- The walks of the numbers of a program's bytes: code.number and the document's sevens. Condition: a number of 41 bits, a slice of the call's own. -/
import Derived.Test.YtabcjdalifhpdaaDoorSpecE
import Derived.Test.YtabcjdalifhpdaaDoorLoc
import Derived.Test.YtabcjdalifhpdaaDoorHeapA
import Derived.Maps.AppendAt
import Derived.Deep.CutRange
namespace Go.Proofs.YtabcjdalifhpdaaDoor
open Go.RowKit
theorem infoU8 : (Tryd.prog.info? 5).map (fun i => (i.zero, i.size, i.bytes)) = some (some (.int .u8 0), 1, 1) := by kernel_rfl
abbrev U8 (l : List Int) : List Value := l.map (.int .u8)
theorem U8_one (l : List Int) : ∀ u ∈ U8 l, u.oneCell' = true := fun u hu => by
 obtain ⟨x, _, rfl⟩ := List.mem_map.1 hu;rfl
theorem own_u8 {w : World} {g base : Nat} {cs : List Value} {t : TypeId} (h : w.heap[g]? = some (.cells cs.toArray t (0, 0))) (hs : cs.length ≤ maxLen) (hb : base ≤ g) :
  w.ownsRow base t 1 (.slice (some ⟨g, 0, none⟩) cs.length cs.length) cs.length cs := ⟨by simp, .inr ⟨g, cs.length, cs.toArray, rfl, hb, h, Nat.le_refl _, hs, by simp, by simp⟩⟩
theorem bits_and_i64_nat (a b : Nat) (ha : a < 4611686018427387904) (hb : b < 4611686018427387904) : bits .and .i64 (a : Int) (b : Int) = ((a &&& b : Nat) : Int) := by
 have hx : a &&& b < 2 ^ 62 := Nat.and_lt_two_pow _ (by omega);have h1 : (BitVec.ofInt 64 (a : Int)).toNat = a := by
  rw [BitVec.ofInt_natCast, BitVec.toNat_ofNat]; exact Nat.mod_eq_of_lt (by omega)
 have h2 : (BitVec.ofInt 64 (b : Int)).toNat = b := by
  rw [BitVec.ofInt_natCast, BitVec.toNat_ofNat]; exact Nat.mod_eq_of_lt (by omega)
 show IntKind.i64.wrap ((BitVec.ofInt 64 (a : Int) &&& BitVec.ofInt 64 (b : Int)).toNat : Int) = _
 rw [BitVec.toNat_and, h1, h2, IntKind.wrap_i64];omega
theorem bits_or_i64_nat (a b : Nat) (ha : a < 4611686018427387904) (hb : b < 4611686018427387904) : bits .or .i64 (a : Int) (b : Int) = ((a ||| b : Nat) : Int) := by
 have hx : a ||| b < 2 ^ 62 := Nat.or_lt_two_pow (by omega) (by omega)
 have h1 : (BitVec.ofInt 64 (a : Int)).toNat = a := by
  rw [BitVec.ofInt_natCast, BitVec.toNat_ofNat]; exact Nat.mod_eq_of_lt (by omega)
 have h2 : (BitVec.ofInt 64 (b : Int)).toNat = b := by
  rw [BitVec.ofInt_natCast, BitVec.toNat_ofNat]; exact Nat.mod_eq_of_lt (by omega)
 show IntKind.i64.wrap ((BitVec.ofInt 64 (a : Int) ||| BitVec.ofInt 64 (b : Int)).toNat : Int) = _
 rw [BitVec.toNat_or, h1, h2, IntKind.wrap_i64];omega
theorem low_seven (k : Nat) (h : k < 4611686018427387904) : bits .and .i64 (k : Int) 127 = ((k % 128 : Nat) : Int) := by
 have := bits_and_i64_nat k 127 h (by omega);rw [show k &&& 127 = k % 128 from Nat.and_two_pow_sub_one_eq_mod k 7] at this;exact this
theorem one_more (m : Nat) (h : m < 128) : bits .or .i64 (m : Int) 128 = ((128 + m : Nat) : Int) := by
 have := bits_or_i64_nat m 128 (by omega) (by omega);rw [Nat.or_comm, ← Nat.two_pow_add_eq_or_of_lt (i := 7) h 1] at this;exact this
theorem two_regs (a b : Nat) (ha : a < 8) (hb : b < 8) : bits .or .i64 (a : Int) ((b : Int) * 8) = ((a + 8 * b : Nat) : Int) := by
 have := bits_or_i64_nat a (b * 8) (by omega) (by omega);rw [Nat.or_comm, Nat.mul_comm b 8, ← Nat.two_pow_add_eq_or_of_lt (i := 3) ha b] at this;rw [show ((b : Int) * 8) = ((8 * b : Nat) : Int) by omega, this];omega
structure Grew (w w' : World) (v v' : Value) : Prop where
 os : w'.os = w.os
 tape : w'.tape = w.tape
 output : w'.output = w.output
 keep : ∀ b, b < w.heap.size → v.ownBlock ≠ some b → w'.heap[b]? = w.heap[b]?
 size : w.heap.size ≤ w'.heap.size
 at_ : ∀ g, v'.ownBlock = some g → v.ownBlock = some g ∨ w.heap.size ≤ g
theorem Grew.refl {w : World} {v : Value} : Grew w w v v := ⟨rfl, rfl, rfl, fun _ _ _ => rfl, Nat.le_refl _, fun _ h => .inl h⟩
theorem Grew.trans {w w' w2 : World} {v v' v2 : Value} (h : Grew w w' v v') (h' : Grew w' w2 v' v2) : Grew w w2 v v2 :=
 ⟨h'.os.trans h.os, h'.tape.trans h.tape, h'.output.trans h.output, fun b hb hn => (h'.keep b (Nat.lt_of_lt_of_le hb h.size) (fun e => (h.at_ b e).elim hn (fun e => absurd hb (Nat.not_lt.2 e)))).trans (h.keep b hb hn), Nat.le_trans h.size h'.size,
  fun g hg => (h'.at_ g hg).elim (h.at_ g) (fun e => .inr (Nat.le_trans h.size e))⟩
theorem Grew.app {w w2 : World} {o : Obj} {v v2 : Value} (hg : (w.alloc o).grownBy w2 v.ownBlock) (hat : v2.ownBlock = v.ownBlock ∨ v2.ownBlock = some (w.heap.size + 1)) : Grew w w2 v v2 :=
 ⟨hg.os, hg.tape, hg.output, fun b hb hn => (hg.block b (by simp; omega) hn.symm).trans (Below.heap_alloc _ _ _ hb), by have := hg.size; simp at this; omega, fun g h => hat.elim (fun e => .inl (e ▸ h)) (fun e => .inr (by
  rw [e] at h;injection h with h
  omega))⟩
theorem Grew.below {w w' : World} {v v' : Value} (h : Grew w w' v v') {base : Nat} (hb : base ≤ w.heap.size) (hv : ∀ g, v.ownBlock = some g → base ≤ g) : Below base w w' :=
 ⟨h.os, h.tape, h.output, h.size, fun k hk => h.keep k (by omega) (fun e => by have := hv k e; omega)⟩
set_option maxRecDepth 100000 in
set_option maxHeartbeats 4000000 in
theorem number_any (base : Nat) (B : Option Addr) (d : Nat) (xs : List Int) (n : Int) (hn : -1099511627776 ≤ n ∧ n ≤ 1099511627776) (hx : xs.length ≤ 1000000) (w : World)
  (hown : w.ownsRow base 5 1 (.slice B xs.length d) xs.length (U8 xs)) (hb : base ≤ w.heap.size) :
  Calls Tryd.prog 78 #[.slice B xs.length d, .int .i64 n] w fun e w' => ∃ B' d', e = .returned (.slice B' (xs ++ sev (zz n)).length d') ∧
   w'.ownsRow base 5 1 (.slice B' (xs ++ sev (zz n)).length d') (xs ++ sev (zz n)).length (U8 (xs ++ sev (zz n))) ∧ Grew w w' (.slice B xs.length d) (.slice B' (xs ++ sev (zz n)).length d') := by
 obtain ⟨i0, hi0, hz0, hz1, hz2⟩ := info_parts infoU8;obtain ⟨zs, hzs⟩ : ∃ zs, xs ++ sev (zz n) = zs := ⟨_, rfl⟩;rw [hzs];have hzl : zs.length ≤ 1000006 := (by have := sev_six hn; rw [← hzs]; simp; omega);have Hown := Lib.hid hown;have Hz := Lib.hid (zz_le hn);have Hs := Lib.hid (sev_six hn);clear hown;go_enter Tryd.func78, Tryd.ntmps78
 have hz2' : zz n ≤ 2199023255552 := Hz.out;go_upto_if 6 with fail
 go_cut [1] from 7 to 11 (fun s wx => s = .int .i64 (zz n) ∧ wx = w)
 case first =>
  by_cases h0 : n < 0
  ·have hzn : ((zz n : Nat) : Int) = -2 * n - 1 := (by unfold zz; rw [if_pos h0]; omega);go_wp2_with fail;go_meet
   exact ⟨by rw [hzn], rfl⟩
  ·have hzn : ((zz n : Nat) : Int) = 2 * n := (by unfold zz; rw [if_neg h0]; omega);go_wp2_with fail;go_meet
   exact ⟨by rw [hzn]; congr 1; omega, rfl⟩
 case rest =>
 obtain ⟨rfl, hwc⟩ := hcut;rw [hwc];clear hwc;go_wp2_with fail;generalize zz n = q at *;go_loopw [0, 1] (fun v m wr => ∃ (k : Nat) (ys : List Int) (B' : Option Addr) (d' : Nat), m = .int .i64 k ∧ v = .slice B' ys.length d' ∧ wr.ownsRow base 5 1 (.slice B' ys.length d') ys.length (U8 ys) ∧
   Grew w wr (.slice B xs.length d) (.slice B' ys.length d') ∧ ys ++ sev k = zs ∧ k ≤ q) (fun _ m _ => (intOf m).toNat)
 case atStart => exact ⟨q, xs, B, d, rfl, rfl, Hown.out, Grew.refl, hzs, Nat.le_refl _⟩
 case round =>
  obtain ⟨k, ys, B', d', rfl, rfl, hown, hg, hl, hk⟩ := hrel;have hyl : ys.length ≤ 1000006 := (by rw [← hl] at hzl; simp at hzl; omega);have Hown1 := Lib.hid hown;have Hg := Lib.hid hg;have Hl := Lib.hid hl;have hgs := hg.size;clear hown hg hl;by_cases h1 : k < 128
  ·have i1 : ¬ (127 : Int) < (k : Int) := (by omega);go_wp2_with (at_builtin; go_loud (refine wpList_append_own_at _ rfl (.tmp 23) (.tmp 26) _ rfl base 5 i0 _ 1 1 Tryd.underlying72 hi0 hz0 hz1 hz2 rfl (by omega) _ ys.length (U8 ys) rfl (Hown1.out.alloc _) ⟨wr.heap.size, 0, none⟩ 1 1 (U8 [(k : Int)]) rfl rfl (World.news_of_block (cs := #[.int .u8 (k : Int)]) (t := 5) (fr := (0, 0)) (heap_alloc_new wr _)) (U8_one _) (by unfold maxLen; omega) (by omega) (by simp; omega) ?next))
   case next =>
    intro v5 w5 hown5 hg5 _ hat5;obtain ⟨A5, c5, rfl⟩ := own_form hown5;have hz' : ys ++ [(k : Int)] = zs := (by rw [← Hl.out, sev_lt h1]);have hzl' : ys.length + 1 = zs.length := (by rw [← hz']; simp);have Hg5 := Lib.hid (Grew.trans Hg.out (Grew.app hg5 hat5));have Hown5 := Lib.hid hown5;clear hown5 hg5 hat5;go_wp2_with fail;go_ret
    refine ⟨A5, c5, by rw [← hzl']; rfl, ?_, by have := Hg5.out; rw [hzl'] at this; exact this⟩;have := Hown5.out;rw [hzl'] at this;have he : U8 ys ++ [.int .u8 (k : Int)] = U8 zs := (by rw [← hz']; simp);rw [he] at this;exact this
  ·have i1 : (127 : Int) < (k : Int) := (by omega);have e1 := low_seven k (by omega);have e2 := one_more (k % 128) (by omega);have e3 : ((128 + k % 128 : Nat) : Int) % 256 = ((128 + k % 128 : Nat) : Int) := (by omega);generalize hby : (128 + k % 128 : Nat) = by_ at *;generalize hlo : k % 128 = lo at *;have hsv : sev k = (by_ : Int) :: sev (k / 128) := (by rw [sev_ge h1, hlo, hby]);have Hsv := Lib.hid hsv;clear hsv;go_wp2_with (at_builtin; go_loud (refine wpList_append_own_at _ rfl (.tmp 14) (.tmp 19) _ rfl base 5 i0 _ 1 1 Tryd.underlying72 hi0 hz0 hz1 hz2 rfl (by omega) _ ys.length (U8 ys) rfl (Hown1.out.alloc _) ⟨wr.heap.size, 0, none⟩ 1 1 (U8 [(by_ : Int)]) rfl rfl (World.news_of_block (cs := #[.int .u8 (by_ : Int)]) (t := 5) (fr := (0, 0)) (heap_alloc_new wr _)) (U8_one _) (by unfold maxLen; omega) (by omega) (by simp; omega) ?next))
   case next =>
    intro v5 w5 hown5 hg5 _ hat5;obtain ⟨A5, c5, rfl⟩ := own_form hown5;have hyl5 : (ys ++ [(by_ : Int)]).length = ys.length + 1 := (by simp);have Hg5 := Lib.hid (Grew.trans Hg.out (Grew.app hg5 (by simpa using hat5)));have Hown5 := Lib.hid hown5;clear hown5 hg5 hat5;go_wp2_with fail;go_roundw
    case rel =>
     refine ⟨k / 128, ys ++ [(by_ : Int)], A5, c5, by go_num, by rw [hyl5], ?_, by rw [hyl5]; exact Hg5.out, by rw [List.append_assoc]; have := Hl.out; rw [Hsv.out] at this; exact this, by omega⟩;rw [hyl5];have := Hown5.out;rw [show U8 ys ++ [.int .u8 (by_ : Int)] = U8 (ys ++ [(by_ : Int)]) by simp] at this;exact this
    case measure => simp [intOf]; omega
theorem own_pos' {w : World} {base : Nat} {e : TypeId} {size : Nat} {A : Option Addr} {n c : Nat} {xs : List Value} (h : w.ownsRow base e size (.slice A n c) n xs) (hn : 0 < n) : ∃ g, A = some ⟨g, 0, none⟩ ∧ base ≤ g := by
 rcases h.2 with ⟨h1, h0⟩ | ⟨g, cap, _, h1, hb, _⟩
 ·omega
 ·injection h1 with h1
  exact ⟨g, h1, hb⟩
theorem own_cell' {w : World} {base : Nat} {e : TypeId} {size : Nat} {g n c : Nat} {xs : List Value} (h : w.ownsRow base e size (.slice (some ⟨g, 0, none⟩) n c) n xs) {i : Nat} {u : Value} (hi : xs[i]? = some u) : w.cell? ((⟨g, 0, none⟩ : Addr).add i) = some u := by
 exact h.cells (g := g) rfl i u hi
end Go.Proofs.YtabcjdalifhpdaaDoor
