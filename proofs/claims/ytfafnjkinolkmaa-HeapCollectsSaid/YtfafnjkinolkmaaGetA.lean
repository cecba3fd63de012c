/- The walk of heap.Get. No condition beside what is read. -/
import Derived.Test.YtfafnjkinolkmaaGet
namespace Go.Proofs.Ytfafnjkinolkmaa
open Go.RowKit

theorem two_cells {w : World} {g : Nat} {a b x y : Value} {t : TypeId} (h : w.heap[g]? = some (.cells #[a, b] t (0, 0))) :
    ((w.setCell ⟨g, 0, none⟩ x).setCell ⟨g, 1, none⟩ y).cell? ⟨g, 0, none⟩ = some x ∧ ((w.setCell ⟨g, 0, none⟩ x).setCell ⟨g, 1, none⟩ y).cell? ⟨g, 1, none⟩ = some y := by
  have h2 := blk_set (i := 1) (blk_set (i := 0) h x) y
  exact ⟨cell_of_row _ g 0 _ _ _ h2, cell_of_row _ g 1 _ _ _ h2⟩

set_option maxRecDepth 100000 in
set_option maxHeartbeats 2000000 in
theorem get_any (m : Int) (S : Nat → Prop) (A : Option Addr) (c : Nat) (os : List Ob) (v : V) (f : Int) (w : World) (hr : RdSl obE w S (.slice A os.length c) os) :
    Calls Try.prog 14 #[.agg #[.int .i64 m, .slice A os.length c], .agg #[.int .i64 v.k, .int .i64 v.n], .int .i64 f] w fun e w' =>
      e = .returned (.tuple #[.agg #[.int .i64 (gotV m os v f).k, .int .i64 (gotV m os v f).n], .int .i64 (gotE m os v f)]) ∧ Below w.heap.size w w' := by
  have Hr := Lib.hid hr
  obtain ⟨-, h1, h2, h3⟩ := hr.lims
  clear hr h3
  have hB : Below w.heap.size w ((((w.alloc (.cells #[.int .i64 m, .slice A os.length c] 26)).alloc (.cells #[.int .i64 v.k, .int .i64 v.n] 31)).alloc (.cells #[.int .i64 0, .int .i64 0] 31)).alloc (.cells #[.int .i64 v.k, .int .i64 v.n] 31)) :=
    ((((Below.refl _ _).alloc (Nat.le_refl _) _).alloc (by simp) _).alloc (by simp; omega) _).alloc (by simp; omega) _
  cases hp : hpB ⟨m, os⟩ [v]
  · have hc : checkN ⟨m, os⟩ [v] = 8 := by simp [checkN, hp]
    have e1 : gotV m os v f = ⟨0, 0⟩ := by simp [gotV, hp]
    have e2 : gotE m os v f = 8 := by simp [gotE, hp]
    rw [e1, e2]
    have Hc := Lib.hid hc
    clear hp hc e1 e2
    go_enter Try.func14, Try.ntmps14
    go_wp2_with fail
    refine (check_is m _ _ A _ c 1 os [v] _ _ Hc (Hr.out.below (by decide) hB) (rd_one (blk_at (by simp)))).mono ?_
    rintro e w1 ⟨rfl, hb1⟩
    have hq : w1.heap[w.heap.size + 1 + 1]? = some (.cells #[.int .i64 0, .int .i64 0] 31 (0, 0)) := (hb1.block _ (by simp)).trans (blk_old (blk_at (by simp)))
    have q4 : w1.cell? ⟨w.heap.size + 1 + 1, 0, none⟩ = some (.int .i64 0) := cell_of_row w1 _ 0 _ _ _ hq
    have q5 : w1.cell? ⟨w.heap.size + 1 + 1, 1, none⟩ = some (.int .i64 0) := cell_of_row w1 _ 1 _ _ _ hq
    have f4 : w1.frozen? ⟨w.heap.size + 1 + 1, 0, none⟩ = false := by simp [World.frozen?, hq]
    have f5 : w1.frozen? ⟨w.heap.size + 1 + 1, 1, none⟩ = false := by simp [World.frozen?, hq]
    have hbb : Below w.heap.size w w1 := hB.trans (hb1.mono hB.size)
    obtain ⟨r0, r1⟩ := two_cells (x := .int .i64 0) (y := .int .i64 0) hq
    have R0 := Lib.hid r0
    have R1 := Lib.hid r1
    clear hq r0 r1
    go_wp2
    exact bodyPost_ret (v := .tuple #[.agg #[.int .i64 0, .int .i64 0], .int .i64 8]) (by simp [results, Try.results14, go_sem, R0.out, R1.out]) rfl ⟨rfl, (hbb.setCell (by simp; omega) _).setCell (by simp; omega) _⟩
  · have hc : checkN ⟨m, os⟩ [v] = 0 := by simp [checkN, hp]
    have hval : v.k = 2 → 0 ≤ v.n ∧ v.n < os.length := fun hk => valB_ref (by simp [hpB] at hp; exact hp.2) hk
    have eE : gotE m os v f = objectE os v f := by simp [gotE, hp]
    have Hc := Lib.hid hc
    have Hv := Lib.hid hval
    have Hp := Lib.hid hp
    clear hp hc hval
    by_cases ho : objectE os v f = 0
    · obtain ⟨hk, o, hoo, e1, e2, _⟩ := objectE_ok ho
      obtain ⟨l1, l2⟩ := Hv.out hk
      obtain ⟨vk, vn⟩ := v
      simp only at hk l1 l2 hoo
      subst hk
      obtain ⟨i, rfl⟩ := Int.eq_ofNat_of_zero_le l1
      obtain ⟨j, rfl⟩ := Int.eq_ofNat_of_zero_le e1
      simp only [Int.toNat_natCast] at hoo
      have hj : j < o.fields.length := by omega
      have hi : i < os.length := by omega
      obtain ⟨x, hx⟩ : ∃ x, o.fields[j]? = some x := ⟨o.fields[j], List.getElem?_eq_getElem hj⟩
      have e3 : gotV m os ⟨2, (i : Int)⟩ (j : Int) = x := by
        rw [gotV, if_pos ⟨Hp.out, ho⟩]
        simp [fieldAt, hoo, hx]
      rw [e3, eE, ho]
      have Hr2 := Lib.hid ho
      have Ho := Lib.hid hoo
      have Hx := Lib.hid hx
      clear e3 eE ho hoo hx
      go_enter Try.func14, Try.ntmps14
      go_wp2_with fail
      refine (check_is m _ _ A _ c 1 os [⟨2, (i : Int)⟩] _ _ Hc (Hr.out.below (by decide) hB) (rd_one (blk_at (by simp)))).mono ?_
      rintro e w0 ⟨rfl, hb0⟩
      have p0 : w0.cell? ⟨w.heap.size, 0, none⟩ = some (.int .i64 m) := (hb0.cell (p := ⟨w.heap.size, 0, none⟩) (by simp; omega)).trans (by simp [go_sem])
      have p1 : w0.cell? ⟨w.heap.size, 1, none⟩ = some (.slice A os.length c) := (hb0.cell (p := ⟨w.heap.size, 1, none⟩) (by simp; omega)).trans (by simp [go_sem])
      have p2 : w0.cell? ⟨w.heap.size + 1, 0, none⟩ = some (.int .i64 2) := (hb0.cell (p := ⟨w.heap.size + 1, 0, none⟩) (by simp)).trans (by simp [go_sem])
      have p3 : w0.cell? ⟨w.heap.size + 1, 1, none⟩ = some (.int .i64 (i : Int)) := (hb0.cell (p := ⟨w.heap.size + 1, 1, none⟩) (by simp)).trans (by simp [go_sem])
      have hz0 : w.heap.size + 1 + 1 + 1 + 1 ≤ w0.heap.size := by have := hb0.size; simpa using this
      go_wp2_with fail
      refine (object_is m _ A c os ⟨2, (i : Int)⟩ (j : Int) _ 0 Hr2 (fun _ => ⟨l1, l2⟩) ((Hr.out.below (by decide) hB).below (by decide) hb0)).mono ?_
      rintro e w1 ⟨rfl, hb1⟩
      have hq : w1.heap[w.heap.size + 1 + 1]? = some (.cells #[.int .i64 0, .int .i64 0] 31 (0, 0)) := (hb1.block _ (by omega)).trans ((hb0.block _ (by simp)).trans (blk_old (blk_at (by simp))))
      have q4 : w1.cell? ⟨w.heap.size + 1 + 1, 0, none⟩ = some (.int .i64 0) := cell_of_row w1 _ 0 _ _ _ hq
      have q5 : w1.cell? ⟨w.heap.size + 1 + 1, 1, none⟩ = some (.int .i64 0) := cell_of_row w1 _ 1 _ _ _ hq
      have f4 : w1.frozen? ⟨w.heap.size + 1 + 1, 0, none⟩ = false := by simp [World.frozen?, hq]
      have f5 : w1.frozen? ⟨w.heap.size + 1 + 1, 1, none⟩ = false := by simp [World.frozen?, hq]
      have hbb : Below w.heap.size w w1 := (hB.trans (hb0.mono hB.size)).trans (hb1.mono (by omega))
      obtain ⟨b, p, B, d, rfl, _, hbs, g0, g1, hfl⟩ := Hr.out.at_o Ho.out
      obtain ⟨b2, p2', rfl, _, hbs2, y0, y1⟩ := hfl.at_v Hx.out
      have z1 : w1.cell? ⟨b, p + i * 2, none⟩ = _ := (hbb.cell (p := ⟨b, p + i * 2, none⟩) hbs).trans g0
      have z2 : w1.cell? ⟨b2, p2' + j * 2, none⟩ = _ := (hbb.cell (p := ⟨b2, p2' + j * 2, none⟩) hbs2).trans y0
      have z3 : w1.cell? ⟨b2, p2' + j * 2 + 1, none⟩ = _ := (hbb.cell (p := ⟨b2, p2' + j * 2 + 1, none⟩) hbs2).trans y1
      have z4 : w1.cell? ⟨w.heap.size, 1, none⟩ = _ := (hb1.cell (p := ⟨w.heap.size, 1, none⟩) (by show w.heap.size < w0.heap.size; omega)).trans p1
      have z5 : w1.cell? ⟨w.heap.size + 1, 1, none⟩ = _ := (hb1.cell (p := ⟨w.heap.size + 1, 1, none⟩) (by show w.heap.size + 1 < w0.heap.size; omega)).trans p3
      clear p0 p1 p2 p3 g0 g1 hfl y0 y1
      have i1 : (0 : Int) ≤ (i : Int) := by omega
      have i2 : (i : Int) < (os.length : Int) := by omega
      have j1 : (0 : Int) ≤ (j : Int) := by omega
      have j2 : (j : Int) < (o.fields.length : Int) := by omega
      obtain ⟨r0, r1⟩ := two_cells (x := .int .i64 x.k) (y := .int .i64 x.n) hq
      have R0 := Lib.hid r0
      have R1 := Lib.hid r1
      clear hq r0 r1
      go_wp2
      exact bodyPost_ret (v := .tuple #[.agg #[.int .i64 x.k, .int .i64 x.n], .int .i64 0]) (by simp [results, Try.results14, go_sem, R0.out, R1.out]) rfl ⟨rfl, (hbb.setCell (by simp; omega) _).setCell (by simp; omega) _⟩
    · have e1 : gotV m os v f = ⟨0, 0⟩ := by simp [gotV, ho]
      have hne : (objectE os v f != 0) = true := by simpa using ho
      rw [e1, eE]
      clear e1 eE ho
      obtain ⟨r, hr⟩ : ∃ r, objectE os v f = r := ⟨_, rfl⟩
      have Hr2 := Lib.hid hr
      rw [hr] at hne
      rw [hr]
      clear hr
      go_enter Try.func14, Try.ntmps14
      go_wp2_with fail
      refine (check_is m _ _ A _ c 1 os [v] _ _ Hc (Hr.out.below (by decide) hB) (rd_one (blk_at (by simp)))).mono ?_
      rintro e w0 ⟨rfl, hb0⟩
      have p0 : w0.cell? ⟨w.heap.size, 0, none⟩ = some (.int .i64 m) := (hb0.cell (p := ⟨w.heap.size, 0, none⟩) (by simp; omega)).trans (by simp [go_sem])
      have p1 : w0.cell? ⟨w.heap.size, 1, none⟩ = some (.slice A os.length c) := (hb0.cell (p := ⟨w.heap.size, 1, none⟩) (by simp; omega)).trans (by simp [go_sem])
      have p2 : w0.cell? ⟨w.heap.size + 1, 0, none⟩ = some (.int .i64 v.k) := (hb0.cell (p := ⟨w.heap.size + 1, 0, none⟩) (by simp)).trans (by simp [go_sem])
      have p3 : w0.cell? ⟨w.heap.size + 1, 1, none⟩ = some (.int .i64 v.n) := (hb0.cell (p := ⟨w.heap.size + 1, 1, none⟩) (by simp)).trans (by simp [go_sem])
      have hz0 : w.heap.size + 1 + 1 + 1 + 1 ≤ w0.heap.size := by have := hb0.size; simpa using this
      go_wp2_with fail
      refine (object_is m _ A c os v f _ r Hr2 Hv.out ((Hr.out.below (by decide) hB).below (by decide) hb0)).mono ?_
      rintro e w1 ⟨rfl, hb1⟩
      have hq : w1.heap[w.heap.size + 1 + 1]? = some (.cells #[.int .i64 0, .int .i64 0] 31 (0, 0)) := (hb1.block _ (by omega)).trans ((hb0.block _ (by simp)).trans (blk_old (blk_at (by simp))))
      have q4 : w1.cell? ⟨w.heap.size + 1 + 1, 0, none⟩ = some (.int .i64 0) := cell_of_row w1 _ 0 _ _ _ hq
      have q5 : w1.cell? ⟨w.heap.size + 1 + 1, 1, none⟩ = some (.int .i64 0) := cell_of_row w1 _ 1 _ _ _ hq
      have f4 : w1.frozen? ⟨w.heap.size + 1 + 1, 0, none⟩ = false := by simp [World.frozen?, hq]
      have f5 : w1.frozen? ⟨w.heap.size + 1 + 1, 1, none⟩ = false := by simp [World.frozen?, hq]
      have hbb : Below w.heap.size w w1 := (hB.trans (hb0.mono hB.size)).trans (hb1.mono (by omega))
      obtain ⟨r0, r1⟩ := two_cells (x := .int .i64 0) (y := .int .i64 0) hq
      have R0 := Lib.hid r0
      have R1 := Lib.hid r1
      clear hq r0 r1
      go_wp2
      exact bodyPost_ret (v := .tuple #[.agg #[.int .i64 0, .int .i64 0], .int .i64 r]) (by simp [results, Try.results14, go_sem, R0.out, R1.out]) rfl ⟨rfl, (hbb.setCell (by simp; omega) _).setCell (by simp; omega) _⟩

end Go.Proofs.Ytfafnjkinolkmaa
