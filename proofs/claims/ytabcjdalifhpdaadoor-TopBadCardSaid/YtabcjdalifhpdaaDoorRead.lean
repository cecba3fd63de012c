/- The walks of the reader of bytes: a byte, a number. No condition beside what is read. -/
import Derived.Test.YtabcjdalifhpdaaDoorSt
import Derived.Test.YtabcjdalifhpdaaDoorBackP
import Derived.Test.YtabcjdalifhpdaaDoorBytesA
import Derived.Deep.CutRange
namespace Go.Proofs.YtabcjdalifhpdaaDoor
open Go.RowKit
def I8 (l : List UInt8) : List Int := l.map (fun c => (c.toNat : Int))
theorem I8_all (l : List UInt8) : AllB (I8 l) := fun c hc => by
 obtain ⟨x, _, rfl⟩ := List.mem_map.1 hc;have := x.toNat_lt;omega
theorem I8_len (l : List UInt8) : (I8 l).length = l.length := by simp [I8]
theorem RdSl.next {w : World} {S : Nat → Prop} {b o n c : Nat} {x : UInt8} {l : List UInt8} (h : RdSl bE w S (.slice (some ⟨b, o, none⟩) n c) (x :: l)) : RdSl bE w S (.slice (some ⟨b, o + 1, none⟩) (n - 1) (c - 1)) l := by
 obtain ⟨A', c', hv, h1, h2, h3, h4⟩ := h
 cases hv
 obtain ⟨b', o', hb, hS, hr⟩ := h4 (by simp);injection hb with hb
 injection hb with e1 e2
 subst e1 e2;refine ⟨some ⟨b, o + 1, none⟩, c - 1, by simp, by simp at h1; omega, by omega, by simp [bE] at h3 ⊢; omega, fun _ => ⟨b, o + 1, rfl, hS, fun j y hy => ?_⟩⟩;obtain ⟨cs, g1, g2, g3⟩ := hr (j + 1) y (by simpa using hy);refine ⟨cs, g1, g2, fun k u hu => ?_⟩;have := g3 k u hu;simp only [bE, Nat.mul_one] at this ⊢;rw [← this];congr 2
 omega
theorem RdSl.none_left {w : World} {S : Nat → Prop} {A : Option Addr} {c : Nat} (hc : c ≤ maxLen) : RdSl bE w S (.slice A 0 c) [] := ⟨A, c, rfl, Nat.zero_le _, hc, Nat.zero_le _, fun h => absurd rfl h⟩
theorem RdSl.is_slice {α : Type} {E : El α} {w : World} {S : Nat → Prop} {v : Value} {xs : List α} (h : RdSl E w S v xs) : ∃ A c, v = .slice A xs.length c := by
 obtain ⟨A, c, hv, _⟩ := h;exact ⟨A, c, hv⟩
structure Only (g : Nat) (w w' : World) : Prop where
 os : w'.os = w.os
 tape : w'.tape = w.tape
 output : w'.output = w.output
 size : w.heap.size ≤ w'.heap.size
 block : ∀ b, b < w.heap.size → b ≠ g → w'.heap[b]? = w.heap[b]?
theorem Only.refl (g : Nat) (w : World) : Only g w w := ⟨rfl, rfl, rfl, Nat.le_refl _, fun _ _ _ => rfl⟩
theorem Only.trans {g : Nat} {w w' w2 : World} (h : Only g w w') (h' : Only g w' w2) : Only g w w2 :=
 ⟨h'.os.trans h.os, h'.tape.trans h.tape, h'.output.trans h.output, Nat.le_trans h.size h'.size, fun b hb hne => (h'.block b (Nat.lt_of_lt_of_le hb h.size) hne).trans (h.block b hb hne)⟩
theorem Only.set {g : Nat} {w w' : World} (h : Only g w w') (k : Nat) (u : Value) : Only g w (w'.setCell ⟨g, k, none⟩ u) :=
 ⟨h.os, h.tape, h.output, by simpa using h.size, fun b hb hne => (Below.heap_setCell _ _ _ _ hne).trans (h.block b hb hne)⟩
theorem Only.drew {g : Nat} {w w' : World} (h : Only g w w') : Only g w w'.drew := ⟨h.os, h.tape, h.output, h.size, h.block⟩
theorem Only.rd {g : Nat} {w w' : World} (h : Only g w w') {S : Nat → Prop} (hg : ¬ S g) {v : Value} {l : List UInt8} (hr : RdSl bE w S v l) : RdSl bE w' S v l :=
 hr.keep (by decide) (fun b hb hS => ⟨hS, h.block b hb (fun e => hg (e ▸ hS))⟩)
theorem St.only {B : Nat} {w0 w w' : World} {R : List Res} (h : St B w0 w R) (i : Nat) {g : Nat} {cs cs' : Array Value} {t : TypeId} (hi : R[i]? = some (.blk g cs t)) (ho : Only g w w') (hb : w'.heap[g]? = some (.cells cs' t (0, 0))) :
  St B w0 w' (R.set i (.blk g cs' t)) ∧ Keeps w R w' (R.set i (.blk g cs' t)) :=
 h.turn i hi (.blk g cs' t) ho.size ho.os ho.tape ho.output (fun b hb hne => ho.block b hb (fun e => hne e)) hb (fun _ hb => .inl hb)
theorem St.onlyAt {g : Nat} {w0 w : World} {cs0 : Array Value} {t0 : TypeId} {R : List Res} (h : St g w0 w R) (k : Keeps w0 [.blk g cs0 t0] w R) : Only g w0 w :=
 ⟨h.below.os, h.below.tape, h.below.output, h.below.size, fun b hb hne => (k b hb (fun r hr hf => by
  rcases List.mem_singleton.1 hr with rfl
  exact hne hf)).2⟩
theorem St.startAt {g : Nat} {w : World} {cs : Array Value} {t : TypeId} (h : w.heap[g]? = some (.cells cs t (0, 0))) : St g w w [.blk g cs t] :=
 ⟨Below.refl _ _, fun r hr => by
  rcases List.mem_singleton.1 hr with rfl
  exact h, fun r hr b hb => by
  rcases List.mem_singleton.1 hr with rfl
  have e : b = g := hb;subst e;exact ⟨Nat.le_refl _, (Array.getElem?_eq_some_iff.1 h).1⟩, List.pairwise_singleton _ _, Nat.le_of_lt (Array.getElem?_eq_some_iff.1 h).1⟩
def rdr (w : World) (g : Nat) (v : Value) (e : Int) : Prop := w.heap[g]? = some (.cells #[v, .int .i64 e] 140 (0, 0))
theorem rdr_set {w : World} {g : Nat} {v : Value} {e : Int} (h : rdr w g v e) (e' : Int) : rdr (w.setCell ⟨g, 1, none⟩ (.int .i64 e')) g v e' := blk_set h _
theorem rdr_set0 {w : World} {g : Nat} {v : Value} {e : Int} (h : rdr w g v e) (v' : Value) : rdr (w.setCell ⟨g, 0, none⟩ v') g v' e := blk_set h _
set_option maxHeartbeats 1000000 in
theorem byte_bad (g : Nat) (v : Value) (e : Int) (w : World) (h : rdr w g v e) (he : (e != 0) = true) : Calls Tryd.prog 79 #[.pointer (some ⟨g, 0, none⟩)] w fun en w' => en = .returned (.int .i64 0) ∧ w = w' := by
 have c0 : w.cell? ⟨g, 0, none⟩ = some v := cell_of_row w _ 0 _ _ _ h;have c1 : w.cell? ⟨g, 1, none⟩ = some (.int .i64 e) := cell_of_row w _ 1 _ _ _ h;clear h;go_enter Tryd.func79, Tryd.ntmps79
 go_wp2_with fail;go_ret
 exact ⟨rfl, rfl⟩
set_option maxHeartbeats 1000000 in
theorem byte_end (g : Nat) (A : Option Addr) (c : Nat) (w : World) (h : rdr w g (.slice A 0 c) 0) :
  Calls Tryd.prog 79 #[.pointer (some ⟨g, 0, none⟩)] w fun en w' => en = .returned (.int .i64 0) ∧ Only g w w' ∧ rdr w' g (.slice A 0 c) 5 := by
 have c0 : w.cell? ⟨g, 0, none⟩ = some (.slice A 0 c) := cell_of_row w _ 0 _ _ _ h;have c1 : w.cell? ⟨g, 1, none⟩ = some (.int .i64 0) := cell_of_row w _ 1 _ _ _ h;have f0 : ∀ i, w.frozen? ⟨g, i, none⟩ = false := fun i => by unfold rdr at h; simp [World.frozen?, h]
 have Hh := Lib.hid h;clear h;go_enter Tryd.func79, Tryd.ntmps79
 go_wp2_with fail;go_ret
 exact ⟨rfl, (Only.refl g w).set _ _, rdr_set Hh.out _⟩
def RdrAt (w : World) (g : Nat) (S : Nat → Prop) (l : List UInt8) : Prop := ∃ v, rdr w g v 0 ∧ RdSl bE w S v l
set_option maxHeartbeats 1000000 in
theorem byte_ok (g : Nat) (S : Nat → Prop) (hg : ¬ S g) (x : UInt8) (l : List UInt8) (w : World) (h : RdrAt w g S (x :: l)) :
  Calls Tryd.prog 79 #[.pointer (some ⟨g, 0, none⟩)] w fun en w' => en = .returned (.int .i64 x.toNat) ∧ Only g w w' ∧ RdrAt w' g S l := by
 obtain ⟨v, h, hr⟩ := h;obtain ⟨A, c, rfl⟩ := hr.is_slice;obtain ⟨b, o, rfl, _, _, y0⟩ := hr.at_b (i := 0) rfl;obtain ⟨-, h1, h2, h3⟩ := hr.lims;have Hx := Lib.hid hr.next;have c0 : w.cell? ⟨g, 0, none⟩ = some (.slice (some ⟨b, o, none⟩) (x :: l).length c) := cell_of_row w _ 0 _ _ _ h;have c1 : w.cell? ⟨g, 1, none⟩ = some (.int .i64 0) := cell_of_row w _ 1 _ _ _ h;have f0 : ∀ i, w.frozen? ⟨g, i, none⟩ = false := fun i => by unfold rdr at h; simp [World.frozen?, h]
 have Hh := Lib.hid h;have hx := x.toNat_lt;rw [Nat.add_zero] at y0;have hn : (x :: l).length = l.length + 1 := rfl;generalize (x :: l).length = n at *;have i1 : (0 : Int) < (n : Int) := (by omega);have i2 : 0 < n := (by omega);have i3 : n ≠ 0 := (by omega);have i4 : 1 ≤ n := (by omega);have i5 : n ≤ c := (by omega);clear h hr h3;by_cases hc : c = 1
 ·subst hc;have hn1 : n = 1 := (by omega);have hl : l = [] := List.eq_nil_of_length_eq_zero (by omega);subst hn1 hl;clear hn i1 i2 i3 i4 i5 Hx;go_enter Tryd.func79, Tryd.ntmps79
  go_wp2_with fail;go_ret
  exact ⟨rfl, (Only.refl g w).set _ _, _, rdr_set0 Hh.out _, RdSl.none_left (by simp)⟩
 ·have hc1 : c - 1 ≠ 0 := (by omega);go_enter Tryd.func79, Tryd.ntmps79
  go_wp2_with fail;go_ret
  exact ⟨rfl, (Only.refl g w).set _ _, _, rdr_set0 Hh.out _, ((Only.refl g w).set _ _).rd hg (by have h := Hx.out; rwa [show n - 1 = l.length by omega] at h)⟩
theorem byte_no (g : Nat) (S : Nat → Prop) (w : World) (h : RdrAt w g S []) :
  Calls Tryd.prog 79 #[.pointer (some ⟨g, 0, none⟩)] w fun en w' => en = .returned (.int .i64 0) ∧ Only g w w' ∧ ∃ v, rdr w' g v 5 := by
 obtain ⟨v, h, hr⟩ := h;obtain ⟨A, c, rfl⟩ := hr.is_slice;exact (byte_end g A c w h).mono fun en w' ⟨h1, h2, h3⟩ => ⟨h1, h2, _, h3⟩
end Go.Proofs.YtabcjdalifhpdaaDoor
