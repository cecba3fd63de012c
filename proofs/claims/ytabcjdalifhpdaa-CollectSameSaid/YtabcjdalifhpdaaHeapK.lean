/- The walk of the statements' heap of raw things: a heap that may be, all its objects alive, and a reference to each. No condition beside what is read, and that the limit may be. -/
import Derived.Test.YtabcjdalifhpdaaMayW
import Derived.Test.YtabcjdalifhpdaaSame
import Derived.Test.YtabcjdalifhpdaaJoin
import Derived.Test.YtabcjdalifhpdaaRegion
import Derived.Maps.AppendAt
import Derived.Deep.CutRange
namespace Go.Proofs.Ytabcjdalifhpdaa
open Go.RowKit

theorem infoV' : (Try.prog.info? 30).map (fun i => (i.zero, i.size, i.bytes)) = some (some (.agg #[.int .i64 0, .int .i64 0]), 2, 16) := infoV
/-- What the raw things make. -/
def HeapKD (w : World) (m : Int) (en : Ending) (w' : World) : Prop :=
  ∃ os A c B d, en = .returned (.tuple #[.agg #[.int .i64 m, .slice A os.length c], .slice B os.length d]) ∧ GoodH m os ∧ RdSl obE w' (fun b => w.heap.size ≤ b) (.slice A os.length c) os ∧ RdSl vE w' (fun b => w.heap.size ≤ b) (.slice B os.length d) (refsTo os.length) ∧ Below w.heap.size w w'

theorem wf_rng {a : Int} (h : (Lit.int .i64 a).wf = true) : -9223372036854775808 ≤ a ∧ a ≤ 9223372036854775807 := by
  simp [Lit.wf, IntKind.min, IntKind.max, IntKind.signed, IntKind.bits] at h
  exact ⟨by omega, by omega⟩
/-- Memory from a place on, but for these blocks. -/
def Far (n : Nat) (L : List Nat) (b : Nat) : Prop := n ≤ b ∧ b ∉ L
theorem far_new {α : Type} {E : El α} {xs : List α} {v : Value} {w : World} {n m : Nat} (h : RdSl E w (fun b => n ≤ b) v xs) (hs : 0 < E.size) (hm : m ≤ n) {L : List Nat} (hL : ∀ x ∈ L, x < n) : RdSl E w (Far m L) v xs :=
  h.keep hs (fun _ _ hS => ⟨⟨Nat.le_trans hm hS, fun hb => absurd (hL _ hb) (Nat.not_lt.2 hS)⟩, rfl⟩)
theorem far_cons {α : Type} {E : El α} {xs : List α} {v : Value} {w w' : World} {m : Nat} {L : List Nat} (h : RdSl E w (Far m L) v xs) (hs : 0 < E.size) (hb : Below w.heap.size w w') : RdSl E w' (Far m (w.heap.size :: L)) v xs :=
  h.keep hs (fun b hl hS => ⟨⟨hS.1, fun hm => by
    rcases List.mem_cons.1 hm with h | h
    · omega
    · exact hS.2 h⟩, hb.block b hl⟩)
theorem far_keep {α : Type} {E : El α} {xs : List α} {v : Value} {w w' : World} {m : Nat} {L : List Nat} (h : RdSl E w (Far m L) v xs) (hs : 0 < E.size) {b : Nat} (hb : b ∈ L) (hk : ∀ c, c ≠ b → w'.heap[c]? = w.heap[c]?) : RdSl E w' (Far m L) v xs :=
  h.keep hs (fun c _ hS => ⟨hS, hk c (fun e => hS.2 (e ▸ hb))⟩)
theorem far_all {α : Type} {E : El α} {xs : List α} {v : Value} {w : World} {m : Nat} {L : List Nat} (h : RdSl E w (Far m L) v xs) (hs : 0 < E.size) : RdSl E w (fun b => m ≤ b) v xs :=
  h.keep hs (fun _ _ hS => ⟨hS.1, rfl⟩)
theorem two_set {n : Nat} {w0 w : World} {b : Nat} {x0 y0 : Value} {t : TypeId} (h : w.heap[b]? = some (.cells #[x0, y0] t (0, 0))) (hb : Below n w0 w) (hn : n ≤ b) (x y : Value) :
    ∃ w', (w.setCell ⟨b, 0, none⟩ x).setCell ⟨b, 1, none⟩ y = w' ∧ w'.heap.size = w.heap.size ∧ w'.heap[b]? = some (.cells #[x, y] t (0, 0)) ∧ (∀ c, c ≠ b → w'.heap[c]? = w.heap[c]?) ∧ Below n w0 w' :=
  ⟨_, rfl, by simp, by simpa using blk_set (blk_set h (i := 0) x) (i := 1) y, fun c hc => (Below.heap_setCell _ _ _ _ hc).trans (Below.heap_setCell _ _ _ _ hc), below_set2 hb hn⟩

theorem newM_ok {m : Int} (h : 0 ≤ m ∧ m ≤ 60) : newM m = m := if_pos h

theorem rc_flat (n : Nat) : (rc n).flatten.length = n * 2 := by
  induction n with
  | zero => rfl
  | succ n ih => rw [rc_succ]; simp [ih]; omega
theorem rc_at {n i : Nat} (h : i < n) : (rc n).flatten[i * 2]? = some (.int .i64 2) ∧ (rc n).flatten[i * 2 + 1]? = some (.int .i64 (i : Int)) := by
  induction n with
  | zero => omega
  | succ n ih =>
    rw [rc_succ]
    by_cases hi : i < n
    · obtain ⟨h1, h2⟩ := ih hi
      rw [List.getElem?_append_left (by rw [rc_flat]; omega), List.getElem?_append_left (by rw [rc_flat]; omega)]
      exact ⟨h1, h2⟩
    · have : i = n := by omega
      subst this
      rw [List.getElem?_append_right (by rw [rc_flat]; omega), List.getElem?_append_right (by rw [rc_flat]; omega), rc_flat]
      simp

set_option maxRecDepth 100000 in
set_option maxHeartbeats 40000000 in
theorem heapK_any (m : Int) (hm : 0 ≤ m ∧ m ≤ 60) (S : Nat → Prop) (L : Option Addr) (c0 : Nat) (l : List Rw) (w : World) (hr : RdSl rwE w S (.slice L l.length c0) l) :
    Calls Try.prog 5 #[.slice L l.length c0, .int .i64 m] w (HeapKD w m) := by
  obtain ⟨-, g1, g2, g3⟩ := hr.lims
  obtain ⟨i0, hi0, hz0, hz1, hz2⟩ := info_parts infoV
  have hr' : RdSl rwE w (fun b => b < w.heap.size) (.slice L l.length c0) l := hr.keep (by decide) (fun b hb _ => ⟨hb, rfl⟩)
  have Hr := Lib.hid hr'
  have hB : Below w.heap.size w (w.alloc (.cells #[.int .i64 0, .slice none 0 0] 25)) := (Below.refl _ _).alloc (Nat.le_refl _) _
  have HL0 := Lib.hid (Locs.nil.new (w := w) (cs := #[.int .i64 0, .slice none 0 0]) (t := 25) rfl)
  have hz : w.heap.size + 1 ≤ (w.alloc (.cells #[.int .i64 0, .slice none 0 0] 25)).heap.size := by simp
  have hn := newM_ok hm
  have G1 := Lib.hid (new_any m)
  simp only [hn] at G1
  generalize newE m = ne at G1
  clear hr hr' g3
  go_enter Try.func5, Try.ntmps5
  go_wp2_with fail
  generalize w.alloc (.cells #[.int .i64 0, .slice none 0 0] 25) = w0 at *
  refine (G1.out _).mono ?_
  rintro e w1 ⟨rfl, hb1⟩
  have hbb1 := below_after hB hb1
  have hz1' : w.heap.size + 1 ≤ w1.heap.size := by have := hb1.size; omega
  have L1 := HL0.out.after hb1
  have HL1 := Lib.hid ((L1.alloc (.cells #[.int .i64 m, .slice none 0 0] 25)).cons (e := (w1.heap.size, #[.int .i64 m, .slice none 0 0], 25)) (blk_at rfl))
  have hbb2 : Below w.heap.size w (w1.alloc (.cells #[.int .i64 m, .slice none 0 0] 25)) := hbb1.alloc (by omega) _
  have hzz : w1.heap.size + 1 ≤ (w1.alloc (.cells #[.int .i64 m, .slice none 0 0] 25)).heap.size := by simp
  go_wp2_with fail
  generalize w1.alloc (.cells #[.int .i64 m, .slice none 0 0] 25) = w2 at *
  clear hb1 hbb1 L1 hB
  generalize w1.heap.size = b6 at *
  clear w1
  go_loopw [8, 9] (fun va vi wr => ∃ (k : Nat) (os : List Ob) (A : Option Addr) (c : Nat) (B : Option Addr) (d : Nat), k ≤ l.length ∧ vi = .int .i64 k ∧ va = .slice B os.length d ∧ GoodH m os ∧
      Locs wr [(b6, #[.int .i64 m, .slice A os.length c], 25), (w.heap.size, #[.int .i64 0, .slice none 0 0], 25)] ∧
      RdSl obE wr (fun b => w.heap.size + 1 ≤ b ∧ (Value.slice B os.length d).ownBlock ≠ some b) (.slice A os.length c) os ∧ wr.ownsRow (b6 + 1) 30 2 (.slice B os.length d) os.length (rc os.length).flatten ∧ Below w.heap.size w wr ∧ b6 + 1 ≤ wr.heap.size)
      (fun _ vi _ => l.length - (intOf vi).toNat)
  case atStart => exact ⟨0, [], none, 0, none, 0, by omega, rfl, rfl, .nil hm, HL1.out, RdSl.nil, ⟨rfl, .inl ⟨rfl, rfl⟩⟩, hbb2, by omega⟩
  case round =>
    obtain ⟨k, os, A, c, B, d, hk, rfl, rfl, hgood, hloc, hos, hall, hb, hzr⟩ := hrel
    have Hgood := Lib.hid hgood
    have Hloc := Lib.hid hloc
    have Hos := Lib.hid hos
    have Hall := Lib.hid hall
    obtain ⟨hl60, hm60⟩ := hgood.lim
    clear hgood hloc hos hall
    by_cases hlt : k < l.length ∧ k < 40
    · obtain ⟨hlt, h40⟩ := hlt
      have i1 : (k : Int) < (l.length : Int) := by omega
      have i2 : (k : Int) < 40 := by omega
      have i0' : (0 : Int) ≤ (k : Int) := by omega
      obtain ⟨x, hx⟩ : ∃ x, l[k]? = some x := ⟨l[k], List.getElem?_eq_getElem hlt⟩
      obtain ⟨lb, lo, rfl, hlS, _, y0, y1, y2, y3, f0, f1, f2, f3⟩ := (Hr.out.below (by decide) hb).at_w hx
      obtain ⟨xk, xa, xb, xc⟩ := x
      dsimp only at y0 y1 y2 y3 f0 f1 f2 f3
      replace f0 := wf_rng f0
      replace f1 := wf_rng f1
      replace f2 := wf_rng f2
      replace f3 := wf_rng f3
      have HL1 := Lib.hid ((Hloc.out.alloc (.cells #[.int .i64 xk, .int .i64 xa, .int .i64 xb, .int .i64 xc] 54)).cons (e := (wr.heap.size, #[.int .i64 xk, .int .i64 xa, .int .i64 xb, .int .i64 xc], 54)) (blk_at rfl))
      have hbr : Below wr.heap.size wr (wr.alloc (.cells #[.int .i64 xk, .int .i64 xa, .int .i64 xb, .int .i64 xc] 54)) := (Below.refl _ _).alloc (Nat.le_refl _) _
      have Hos1 := Lib.hid (Hos.out.below (by decide) hbr)
      have Hall1 := Lib.hid (own_below Hall.out hbr)
      have hgb : ∀ g, (Value.slice B os.length d).ownBlock = some g → g < wr.heap.size := fun g hg => (own_lt Hall.out hg).1
      have hB0 := below_after hb hbr
      have hz10 : wr.heap.size + 1 ≤ (wr.alloc (.cells #[.int .i64 xk, .int .i64 xa, .int .i64 xb, .int .i64 xc] 54)).heap.size := by simp
      obtain ⟨p1, hp1⟩ : ∃ p, p = pickN xk 3 := ⟨_, rfl⟩
      have G2 := Lib.hid (fun W => picked_any xk 3 f0.1 f0.2 (by omega) (by omega) W)
      rw [← hp1] at G2
      clear hp1
      go_upto_region 7 with fail
      generalize wr.alloc (.cells #[.int .i64 xk, .int .i64 xa, .int .i64 xb, .int .i64 xc] 54) = W0 at *
      clear hbr Hloc Hos Hall
      generalize wr.heap.size = b10 at *
      obtain ⟨r10, q10, r6, q6, r4, q4, -⟩ := HL1.out.rules
      dsimp only at r10 q10 r6 q6 r4 q4
      have y10 : b10 < W0.heap.size := by omega
      have y6 : b6 < W0.heap.size := by omega
      have y4 : w.heap.size < W0.heap.size := by omega
      go_cut [44] from 36 to 44 (fun s wx => s = .bool (decide (p1 = 0 ∨ os.length = 0)) ∧ wx = W0)
      case first =>
        go_wp2_with fail
        refine (G2.out _).mono ?_
        rintro e w' ⟨rfl, rfl⟩
        by_cases h1 : p1 = 0
        · go_wp2_with fail
          go_meet
          exact ⟨by simp [h1], rfl⟩
        · have hb1 : (p1 == 0) = false := by simpa using h1
          by_cases h2 : os.length = 0
          · have hb2 : ((os.length : Int) == 0) = true := by simp [h2]
            have hd : decide (p1 = 0 ∨ os.length = 0) = true := by simp [h2]
            clear h2
            go_wp2_with fail
            go_meet
            exact ⟨by rw [hd], rfl⟩
          · have hb2 : ((os.length : Int) == 0) = false := by simpa using h2
            have hd : decide (p1 = 0 ∨ os.length = 0) = false := by simp [h1, h2]
            go_wp2_with fail
            go_meet
            exact ⟨by rw [hd], rfl⟩
      case rest =>
      obtain ⟨rfl, hwc⟩ := hcut
      rw [hwc]
      clear hwc
      by_cases hA : p1 = 0 ∨ os.length = 0
      · obtain ⟨p3, hp3⟩ : ∃ p, p = pickN xa 4 := ⟨_, rfl⟩
        have hp3' := pickN_lt xa 4 (by omega)
        have G3 := Lib.hid (fun W => picked_any xa 4 f1.1 f1.2 (by omega) (by omega) W)
        rw [← hp3] at G3 hp3'
        clear hp3
        obtain ⟨j1, j2⟩ := hp3'
        have hd : decide (p1 = 0 ∨ os.length = 0) = true := decide_eq_true hA
        rw [hd]
        clear hA hd
        focus
          go_wp2_with fail
          refine wp_region_tree (.still [0, 1, 2] (.alt (.loud 3 [0] (.still [4] (.alt (.loud 5 [] (.still [6, 7, 8, 9] (.alt (.loud 10 [0, 1, 2, 4, 6, 7, 8, 9] (.loud 11 [0, 1, 2, 4, 6, 7, 8, 9] (.loud 12 [8, 9] (.loud 13 [9] (.still [14] .done))))) (.loud 11 [0, 1, 2, 4, 6, 7, 8, 9] (.loud 10 [0, 1, 2, 4, 6, 7, 8, 9] (.loud 12 [8, 9] (.loud 13 [9] (.still [14] .done)))))))) (.alt (.loud 10 [0, 1, 2, 4] (.alt (.loud 5 [] (.still [6, 7, 8, 9] (.loud 11 [0, 1, 2, 4, 6, 7, 8, 9] (.loud 12 [8, 9] (.loud 13 [9] (.still [14] .done)))))) (.loud 11 [0, 1, 2, 4] (.loud 5 [] (.still [6, 7, 8, 9] (.loud 12 [8, 9] (.loud 13 [9] (.still [14] .done)))))))) (.loud 11 [0, 1, 2, 4] (.alt (.loud 5 [] (.still [6, 7, 8, 9] (.loud 10 [0, 1, 2, 4, 6, 7, 8, 9] (.loud 12 [8, 9] (.loud 13 [9] (.still [14] .done)))))) (.loud 10 [0, 1, 2, 4] (.loud 5 [] (.still [6, 7, 8, 9] (.loud 12 [8, 9] (.loud 13 [9] (.still [14] .done)))))))))))) (.alt (.loud 10 [0, 1, 2] (.alt (.loud 3 [0] (.still [4] (.alt (.loud 5 [] (.still [6, 7, 8, 9] (.loud 11 [0, 1, 2, 4, 6, 7, 8, 9] (.loud 12 [8, 9] (.loud 13 [9] (.still [14] .done)))))) (.loud 11 [0, 1, 2, 4] (.loud 5 [] (.still [6, 7, 8, 9] (.loud 12 [8, 9] (.loud 13 [9] (.still [14] .done))))))))) (.loud 11 [0, 1, 2] (.loud 3 [0] (.still [4] (.loud 5 [] (.still [6, 7, 8, 9] (.loud 12 [8, 9] (.loud 13 [9] (.still [14] .done)))))))))) (.loud 11 [0, 1, 2] (.alt (.loud 3 [0] (.still [4] (.alt (.loud 5 [] (.still [6, 7, 8, 9] (.loud 10 [0, 1, 2, 4, 6, 7, 8, 9] (.loud 12 [8, 9] (.loud 13 [9] (.still [14] .done)))))) (.loud 10 [0, 1, 2, 4] (.loud 5 [] (.still [6, 7, 8, 9] (.loud 12 [8, 9] (.loud 13 [9] (.still [14] .done))))))))) (.loud 10 [0, 1, 2] (.loud 3 [0] (.still [4] (.loud 5 [] (.still [6, 7, 8, 9] (.loud 12 [8, 9] (.loud 13 [9] (.still [14] .done))))))))))))) (fun a a' w' => ∃ (b11 b12 : Nat) (A5 : Option Addr) (c5 : Nat), Locs w' [(b12, #[.int .i64 (allocV ⟨m, os⟩ (1 + p3)).k, .int .i64 (allocV ⟨m, os⟩ (1 + p3)).n], 30), (b11, #[.int .i64 (allocH ⟨m, os⟩ (1 + p3)).most, .slice A5 (allocH ⟨m, os⟩ (1 + p3)).objs.length c5], 25)] ∧ RdSl obE w' (fun b => W0.heap.size ≤ b) (.slice A5 (allocH ⟨m, os⟩ (1 + p3)).objs.length c5) (allocH ⟨m, os⟩ (1 + p3)).objs ∧ Below W0.heap.size W0 w' ∧ W0.heap.size ≤ b11 ∧ W0.heap.size ≤ b12 ∧ ∃ (g46 : Value) (g47 : Value) (g48 : Value) (g49 : Value) (g50 : Value) (g51 : Value) (g45 : Value) (g52 : Value) (g53 : Value) (g54 : Value), a' = (((((((((((((a.put (some 46) g46).put (some 47) g47).put (some 48) g48).put (some 49) g49).put (some 50) g50).put (some 51) g51).put (some 45) g45).put (some 52) g52).put (some 53) g53).put (some 54) g54).put (some 11) (.pointer (some ⟨b11, 0, none⟩))).put (some 12) (.pointer (some ⟨b12, 0, none⟩))).put (some 13) (.int .i64 (allocE ⟨m, os⟩ (1 + p3))))) (by kernel_rfl) (by kernel_rfl) ?_ ?_
          · have Hc := Lib.hid (show Below W0.heap.size W0 W0.drew from (Below.refl _ _).drew)
            have hsz : W0.heap.size ≤ W0.drew.heap.size := Hc.out.size
            obtain ⟨r10, q10, r6, q6, r4, q4, -⟩ := (HL1.out.after Hc.out).rules
            dsimp only at r10 q10 r6 q6 r4 q4
            generalize W0.drew = wc at *
            refine tr_still ?_
            simp only [pick, List.getElem?_toArray, List.getElem?_cons_succ, List.getElem?_cons_zero]
            repeat still_step
            refine wpStill_nil ?_
            refine tr_alt ?_ ?_
            · refine tr_loud ?_
              simp only [pick, List.getElem?_toArray, List.getElem?_cons_succ, List.getElem?_cons_zero]
              go_wp2_with fail
              refine (G3.out _).mono ?_
              rintro e w' ⟨rfl, rfl⟩
              go_wp2_with fail
              refine ⟨?_, ?_⟩
              · simp only [Again, pick, List.getElem?_toArray]
                refine ⟨?_, trivial⟩
                all_goals (still_step; exact wpStill_nil rfl)
              refine tr_still ?_
              simp only [pick, List.getElem?_toArray, List.getElem?_cons_succ, List.getElem?_cons_zero]
              repeat still_step
              refine wpStill_nil ?_
              refine tr_alt ?_ ?_
              · refine tr_loud ?_
                simp only [pick, List.getElem?_toArray, List.getElem?_cons_succ, List.getElem?_cons_zero]
                go_wp2_with fail
                refine (alloc_any m _ A c os (1 + p3) _ (Hos1.out.below (by decide) Hc.out)).mono ?_
                rintro e wn ⟨v5, rfl, ⟨A5, c5, rfl, hv5⟩, hb5⟩
                have Hv := Lib.hid (far_new (L := []) hv5 (by decide) hsz (by simp))
                replace Hc := Lib.hid (below_after Hc.out hb5)
                replace hsz := Nat.le_trans hsz hb5.size
                obtain ⟨r10, q10, r6, q6, r4, q4, -⟩ := (HL1.out.after Hc.out).rules
                dsimp only at r10 q10 r6 q6 r4 q4
                clear hv5 hb5
                go_wp2_with fail
                refine ⟨trivial, ?_⟩
                generalize wn = wc at *
                refine tr_still ?_
                simp only [pick, List.getElem?_toArray, List.getElem?_cons_succ, List.getElem?_cons_zero]
                repeat still_step
                refine wpStill_nil ?_
                refine tr_alt ?_ ?_
                · refine tr_loud ?_
                  simp only [pick, List.getElem?_toArray, List.getElem?_cons_succ, List.getElem?_cons_zero]
                  go_wp2_with fail
                  have D10 := Lib.hid (show (wc.alloc (.cells #[.int .i64 0, .slice none 0 0] 25)).heap[wc.heap.size]? = some (.cells #[.int .i64 0, .slice none 0 0] 25 (0, 0)) from blk_at rfl)
                  have hs10 : wc.heap.size < (wc.alloc (.cells #[.int .i64 0, .slice none 0 0] 25)).heap.size := by simp
                  have hbn : Below wc.heap.size wc (wc.alloc (.cells #[.int .i64 0, .slice none 0 0] 25)) := (Below.refl _ _).alloc (Nat.le_refl _) _
                  replace Hv := Lib.hid (far_cons Hv.out (by decide) hbn)
                  have ho10 : W0.heap.size ≤ wc.heap.size := hsz
                  replace Hc := Lib.hid (below_after Hc.out hbn)
                  replace hsz := Nat.le_trans hsz hbn.size
                  obtain ⟨r10, q10, r6, q6, r4, q4, -⟩ := (HL1.out.after Hc.out).rules
                  dsimp only at r10 q10 r6 q6 r4 q4
                  clear hbn
                  generalize wc.heap.size = b10' at *
                  generalize wc.alloc (.cells #[.int .i64 0, .slice none 0 0] 25) = wc at *
                  refine ⟨?_, ?_⟩
                  · simp only [Again, pick, List.getElem?_toArray]
                    refine ⟨?_, ?_, ?_, ?_, ?_, ?_, ?_, ?_, trivial⟩
                    all_goals (still_step; exact wpStill_nil rfl)
                  refine tr_loud ?_
                  simp only [pick, List.getElem?_toArray, List.getElem?_cons_succ, List.getElem?_cons_zero]
                  go_wp2_with fail
                  have D11 := Lib.hid (show (wc.alloc (.cells #[.int .i64 0, .int .i64 0] 30)).heap[wc.heap.size]? = some (.cells #[.int .i64 0, .int .i64 0] 30 (0, 0)) from blk_at rfl)
                  have hs11 : wc.heap.size < (wc.alloc (.cells #[.int .i64 0, .int .i64 0] 30)).heap.size := by simp
                  have hbn : Below wc.heap.size wc (wc.alloc (.cells #[.int .i64 0, .int .i64 0] 30)) := (Below.refl _ _).alloc (Nat.le_refl _) _
                  replace Hv := Lib.hid (far_cons Hv.out (by decide) hbn)
                  have hne : b10' < wc.heap.size := hs10
                  replace D10 := Lib.hid ((hbn.block _ hs10).trans D10.out)
                  replace hs10 := Nat.lt_of_lt_of_le hs10 hbn.size
                  have ho11 : W0.heap.size ≤ wc.heap.size := hsz
                  replace Hc := Lib.hid (below_after Hc.out hbn)
                  replace hsz := Nat.le_trans hsz hbn.size
                  obtain ⟨r10, q10, r6, q6, r4, q4, -⟩ := (HL1.out.after Hc.out).rules
                  dsimp only at r10 q10 r6 q6 r4 q4
                  clear hbn
                  generalize wc.heap.size = b11 at *
                  generalize wc.alloc (.cells #[.int .i64 0, .int .i64 0] 30) = wc at *
                  refine ⟨?_, ?_⟩
                  · simp only [Again, pick, List.getElem?_toArray]
                    refine ⟨?_, ?_, ?_, ?_, ?_, ?_, ?_, ?_, trivial⟩
                    all_goals (still_step; exact wpStill_nil rfl)
                  refine tr_loud ?_
                  simp only [pick, List.getElem?_toArray, List.getElem?_cons_succ, List.getElem?_cons_zero]
                  have d0 : wc.cell? ⟨b10', 0, none⟩ = some (.int .i64 0) := cell_of_row wc _ 0 _ _ _ D10.out
                  have d1 : wc.cell? ⟨b10', 1, none⟩ = some (.slice none 0 0) := cell_of_row wc _ 1 _ _ _ D10.out
                  have d2 : wc.frozen? ⟨b10', 0, none⟩ = false := by simp [World.frozen?, D10.out]
                  have d3 : wc.frozen? ⟨b10', 1, none⟩ = false := by simp [World.frozen?, D10.out]
                  go_wp2_with fail
                  obtain ⟨wn, hwn, n1, n2, n3, n4⟩ := two_set D10.out Hc.out ho10 (.int .i64 (allocH ⟨m, os⟩ (1 + p3)).most) (.slice A5 (allocH ⟨m, os⟩ (1 + p3)).objs.length c5)
                  rw [hwn]
                  replace Hv := Lib.hid (far_keep Hv.out (by decide) (b := b10') (by simp) n3)
                  replace D10 := Lib.hid n2
                  replace hs10 : b10' < wn.heap.size := by rw [n1]; exact hs10
                  replace D11 := Lib.hid ((n3 b11 (by omega)).trans D11.out)
                  replace hs11 : b11 < wn.heap.size := by rw [n1]; exact hs11
                  replace Hc := Lib.hid n4
                  replace hsz : W0.heap.size ≤ wn.heap.size := by rw [n1]; exact hsz
                  obtain ⟨r10, q10, r6, q6, r4, q4, -⟩ := (HL1.out.after Hc.out).rules
                  dsimp only at r10 q10 r6 q6 r4 q4
                  clear d0 d1 d2 d3 hwn n1 n2 n3 n4
                  refine ⟨?_, ?_⟩
                  · simp only [Again, pick, List.getElem?_toArray]
                    refine ⟨?_, ?_, trivial⟩
                    all_goals (still_step; exact wpStill_nil rfl)
                  generalize wn = wc at *
                  refine tr_loud ?_
                  simp only [pick, List.getElem?_toArray, List.getElem?_cons_succ, List.getElem?_cons_zero]
                  have d0 : wc.cell? ⟨b11, 0, none⟩ = some (.int .i64 0) := cell_of_row wc _ 0 _ _ _ D11.out
                  have d1 : wc.cell? ⟨b11, 1, none⟩ = some (.int .i64 0) := cell_of_row wc _ 1 _ _ _ D11.out
                  have d2 : wc.frozen? ⟨b11, 0, none⟩ = false := by simp [World.frozen?, D11.out]
                  have d3 : wc.frozen? ⟨b11, 1, none⟩ = false := by simp [World.frozen?, D11.out]
                  go_wp2_with fail
                  obtain ⟨wn, hwn, n1, n2, n3, n4⟩ := two_set D11.out Hc.out ho11 (.int .i64 (allocV ⟨m, os⟩ (1 + p3)).k) (.int .i64 (allocV ⟨m, os⟩ (1 + p3)).n)
                  rw [hwn]
                  replace Hv := Lib.hid (far_keep Hv.out (by decide) (b := b11) (by simp) n3)
                  replace D10 := Lib.hid ((n3 b10' (by omega)).trans D10.out)
                  replace D11 := Lib.hid n2
                  replace Hc := Lib.hid n4
                  clear d0 d1 d2 d3 hwn n1 n2 n3 n4
                  refine ⟨?_, ?_⟩
                  · simp only [Again, pick, List.getElem?_toArray]
                    refine ⟨?_, trivial⟩
                    all_goals (still_step; exact wpStill_nil rfl)
                  generalize wn = wc at *
                  refine tr_still ?_
                  simp only [pick, List.getElem?_toArray, List.getElem?_cons_succ, List.getElem?_cons_zero]
                  repeat still_step
                  refine wpStill_nil ?_
                  refine tr_done ?_
                  refine ⟨b10', b11, A5, c5, Locs.cons D11.out (Locs.cons D10.out Locs.nil), far_all Hv.out (by decide), Hc.out, ho10, ho11, ?_⟩
                  repeat (apply Exists.intro)
                  simp only [Act.put, List.setIfInBounds_toArray, List.set_cons_succ, List.set_cons_zero]
                  rfl
                · refine tr_loud ?_
                  simp only [pick, List.getElem?_toArray, List.getElem?_cons_succ, List.getElem?_cons_zero]
                  go_wp2_with fail
                  have D11 := Lib.hid (show (wc.alloc (.cells #[.int .i64 0, .int .i64 0] 30)).heap[wc.heap.size]? = some (.cells #[.int .i64 0, .int .i64 0] 30 (0, 0)) from blk_at rfl)
                  have hs11 : wc.heap.size < (wc.alloc (.cells #[.int .i64 0, .int .i64 0] 30)).heap.size := by simp
                  have hbn : Below wc.heap.size wc (wc.alloc (.cells #[.int .i64 0, .int .i64 0] 30)) := (Below.refl _ _).alloc (Nat.le_refl _) _
                  replace Hv := Lib.hid (far_cons Hv.out (by decide) hbn)
                  have ho11 : W0.heap.size ≤ wc.heap.size := hsz
                  replace Hc := Lib.hid (below_after Hc.out hbn)
                  replace hsz := Nat.le_trans hsz hbn.size
                  obtain ⟨r10, q10, r6, q6, r4, q4, -⟩ := (HL1.out.after Hc.out).rules
                  dsimp only at r10 q10 r6 q6 r4 q4
                  clear hbn
                  generalize wc.heap.size = b11 at *
                  generalize wc.alloc (.cells #[.int .i64 0, .int .i64 0] 30) = wc at *
                  refine ⟨?_, ?_⟩
                  · simp only [Again, pick, List.getElem?_toArray]
                    refine ⟨?_, ?_, ?_, ?_, ?_, ?_, ?_, ?_, trivial⟩
                    all_goals (still_step; exact wpStill_nil rfl)
                  refine tr_loud ?_
                  simp only [pick, List.getElem?_toArray, List.getElem?_cons_succ, List.getElem?_cons_zero]
                  go_wp2_with fail
                  have D10 := Lib.hid (show (wc.alloc (.cells #[.int .i64 0, .slice none 0 0] 25)).heap[wc.heap.size]? = some (.cells #[.int .i64 0, .slice none 0 0] 25 (0, 0)) from blk_at rfl)
                  have hs10 : wc.heap.size < (wc.alloc (.cells #[.int .i64 0, .slice none 0 0] 25)).heap.size := by simp
                  have hbn : Below wc.heap.size wc (wc.alloc (.cells #[.int .i64 0, .slice none 0 0] 25)) := (Below.refl _ _).alloc (Nat.le_refl _) _
                  replace Hv := Lib.hid (far_cons Hv.out (by decide) hbn)
                  have hne : b11 < wc.heap.size := hs11
                  replace D11 := Lib.hid ((hbn.block _ hs11).trans D11.out)
                  replace hs11 := Nat.lt_of_lt_of_le hs11 hbn.size
                  have ho10 : W0.heap.size ≤ wc.heap.size := hsz
                  replace Hc := Lib.hid (below_after Hc.out hbn)
                  replace hsz := Nat.le_trans hsz hbn.size
                  obtain ⟨r10, q10, r6, q6, r4, q4, -⟩ := (HL1.out.after Hc.out).rules
                  dsimp only at r10 q10 r6 q6 r4 q4
                  clear hbn
                  generalize wc.heap.size = b10' at *
                  generalize wc.alloc (.cells #[.int .i64 0, .slice none 0 0] 25) = wc at *
                  refine ⟨?_, ?_⟩
                  · simp only [Again, pick, List.getElem?_toArray]
                    refine ⟨?_, ?_, ?_, ?_, ?_, ?_, ?_, ?_, trivial⟩
                    all_goals (still_step; exact wpStill_nil rfl)
                  refine tr_loud ?_
                  simp only [pick, List.getElem?_toArray, List.getElem?_cons_succ, List.getElem?_cons_zero]
                  have d0 : wc.cell? ⟨b10', 0, none⟩ = some (.int .i64 0) := cell_of_row wc _ 0 _ _ _ D10.out
                  have d1 : wc.cell? ⟨b10', 1, none⟩ = some (.slice none 0 0) := cell_of_row wc _ 1 _ _ _ D10.out
                  have d2 : wc.frozen? ⟨b10', 0, none⟩ = false := by simp [World.frozen?, D10.out]
                  have d3 : wc.frozen? ⟨b10', 1, none⟩ = false := by simp [World.frozen?, D10.out]
                  go_wp2_with fail
                  obtain ⟨wn, hwn, n1, n2, n3, n4⟩ := two_set D10.out Hc.out ho10 (.int .i64 (allocH ⟨m, os⟩ (1 + p3)).most) (.slice A5 (allocH ⟨m, os⟩ (1 + p3)).objs.length c5)
                  rw [hwn]
                  replace Hv := Lib.hid (far_keep Hv.out (by decide) (b := b10') (by simp) n3)
                  replace D10 := Lib.hid n2
                  replace hs10 : b10' < wn.heap.size := by rw [n1]; exact hs10
                  replace D11 := Lib.hid ((n3 b11 (by omega)).trans D11.out)
                  replace hs11 : b11 < wn.heap.size := by rw [n1]; exact hs11
                  replace Hc := Lib.hid n4
                  replace hsz : W0.heap.size ≤ wn.heap.size := by rw [n1]; exact hsz
                  obtain ⟨r10, q10, r6, q6, r4, q4, -⟩ := (HL1.out.after Hc.out).rules
                  dsimp only at r10 q10 r6 q6 r4 q4
                  clear d0 d1 d2 d3 hwn n1 n2 n3 n4
                  refine ⟨?_, ?_⟩
                  · simp only [Again, pick, List.getElem?_toArray]
                    refine ⟨?_, ?_, trivial⟩
                    all_goals (still_step; exact wpStill_nil rfl)
                  generalize wn = wc at *
                  refine tr_loud ?_
                  simp only [pick, List.getElem?_toArray, List.getElem?_cons_succ, List.getElem?_cons_zero]
                  have d0 : wc.cell? ⟨b11, 0, none⟩ = some (.int .i64 0) := cell_of_row wc _ 0 _ _ _ D11.out
                  have d1 : wc.cell? ⟨b11, 1, none⟩ = some (.int .i64 0) := cell_of_row wc _ 1 _ _ _ D11.out
                  have d2 : wc.frozen? ⟨b11, 0, none⟩ = false := by simp [World.frozen?, D11.out]
                  have d3 : wc.frozen? ⟨b11, 1, none⟩ = false := by simp [World.frozen?, D11.out]
                  go_wp2_with fail
                  obtain ⟨wn, hwn, n1, n2, n3, n4⟩ := two_set D11.out Hc.out ho11 (.int .i64 (allocV ⟨m, os⟩ (1 + p3)).k) (.int .i64 (allocV ⟨m, os⟩ (1 + p3)).n)
                  rw [hwn]
                  replace Hv := Lib.hid (far_keep Hv.out (by decide) (b := b11) (by simp) n3)
                  replace D10 := Lib.hid ((n3 b10' (by omega)).trans D10.out)
                  replace D11 := Lib.hid n2
                  replace Hc := Lib.hid n4
                  clear d0 d1 d2 d3 hwn n1 n2 n3 n4
                  refine ⟨?_, ?_⟩
                  · simp only [Again, pick, List.getElem?_toArray]
                    refine ⟨?_, trivial⟩
                    all_goals (still_step; exact wpStill_nil rfl)
                  generalize wn = wc at *
                  refine tr_still ?_
                  simp only [pick, List.getElem?_toArray, List.getElem?_cons_succ, List.getElem?_cons_zero]
                  repeat still_step
                  refine wpStill_nil ?_
                  refine tr_done ?_
                  refine ⟨b10', b11, A5, c5, Locs.cons D11.out (Locs.cons D10.out Locs.nil), far_all Hv.out (by decide), Hc.out, ho10, ho11, ?_⟩
                  repeat (apply Exists.intro)
                  simp only [Act.put, List.setIfInBounds_toArray, List.set_cons_succ, List.set_cons_zero]
                  rfl
              · refine tr_alt ?_ ?_
                · refine tr_loud ?_
                  simp only [pick, List.getElem?_toArray, List.getElem?_cons_succ, List.getElem?_cons_zero]
                  go_wp2_with fail
                  have D10 := Lib.hid (show (wc.alloc (.cells #[.int .i64 0, .slice none 0 0] 25)).heap[wc.heap.size]? = some (.cells #[.int .i64 0, .slice none 0 0] 25 (0, 0)) from blk_at rfl)
                  have hs10 : wc.heap.size < (wc.alloc (.cells #[.int .i64 0, .slice none 0 0] 25)).heap.size := by simp
                  have hbn : Below wc.heap.size wc (wc.alloc (.cells #[.int .i64 0, .slice none 0 0] 25)) := (Below.refl _ _).alloc (Nat.le_refl _) _
                  have ho10 : W0.heap.size ≤ wc.heap.size := hsz
                  replace Hc := Lib.hid (below_after Hc.out hbn)
                  replace hsz := Nat.le_trans hsz hbn.size
                  obtain ⟨r10, q10, r6, q6, r4, q4, -⟩ := (HL1.out.after Hc.out).rules
                  dsimp only at r10 q10 r6 q6 r4 q4
                  clear hbn
                  generalize wc.heap.size = b10' at *
                  generalize wc.alloc (.cells #[.int .i64 0, .slice none 0 0] 25) = wc at *
                  refine ⟨?_, ?_⟩
                  · simp only [Again, pick, List.getElem?_toArray]
                    refine ⟨?_, ?_, ?_, ?_, trivial⟩
                    all_goals (still_step; exact wpStill_nil rfl)
                  refine tr_alt ?_ ?_
                  · refine tr_loud ?_
                    simp only [pick, List.getElem?_toArray, List.getElem?_cons_succ, List.getElem?_cons_zero]
                    go_wp2_with fail
                    refine (alloc_any m _ A c os (1 + p3) _ (Hos1.out.below (by decide) Hc.out)).mono ?_
                    rintro e wn ⟨v5, rfl, ⟨A5, c5, rfl, hv5⟩, hb5⟩
                    have Hv := Lib.hid (far_new (L := [b10']) hv5 (by decide) hsz (by simp; omega))
                    replace Hc := Lib.hid (below_after Hc.out hb5)
                    replace D10 := Lib.hid ((hb5.block _ hs10).trans D10.out)
                    replace hs10 := Nat.lt_of_lt_of_le hs10 hb5.size
                    replace hsz := Nat.le_trans hsz hb5.size
                    obtain ⟨r10, q10, r6, q6, r4, q4, -⟩ := (HL1.out.after Hc.out).rules
                    dsimp only at r10 q10 r6 q6 r4 q4
                    clear hv5 hb5
                    go_wp2_with fail
                    refine ⟨trivial, ?_⟩
                    generalize wn = wc at *
                    refine tr_still ?_
                    simp only [pick, List.getElem?_toArray, List.getElem?_cons_succ, List.getElem?_cons_zero]
                    repeat still_step
                    refine wpStill_nil ?_
                    refine tr_loud ?_
                    simp only [pick, List.getElem?_toArray, List.getElem?_cons_succ, List.getElem?_cons_zero]
                    go_wp2_with fail
                    have D11 := Lib.hid (show (wc.alloc (.cells #[.int .i64 0, .int .i64 0] 30)).heap[wc.heap.size]? = some (.cells #[.int .i64 0, .int .i64 0] 30 (0, 0)) from blk_at rfl)
                    have hs11 : wc.heap.size < (wc.alloc (.cells #[.int .i64 0, .int .i64 0] 30)).heap.size := by simp
                    have hbn : Below wc.heap.size wc (wc.alloc (.cells #[.int .i64 0, .int .i64 0] 30)) := (Below.refl _ _).alloc (Nat.le_refl _) _
                    replace Hv := Lib.hid (far_cons Hv.out (by decide) hbn)
                    have hne : b10' < wc.heap.size := hs10
                    replace D10 := Lib.hid ((hbn.block _ hs10).trans D10.out)
                    replace hs10 := Nat.lt_of_lt_of_le hs10 hbn.size
                    have ho11 : W0.heap.size ≤ wc.heap.size := hsz
                    replace Hc := Lib.hid (below_after Hc.out hbn)
                    replace hsz := Nat.le_trans hsz hbn.size
                    obtain ⟨r10, q10, r6, q6, r4, q4, -⟩ := (HL1.out.after Hc.out).rules
                    dsimp only at r10 q10 r6 q6 r4 q4
                    clear hbn
                    generalize wc.heap.size = b11 at *
                    generalize wc.alloc (.cells #[.int .i64 0, .int .i64 0] 30) = wc at *
                    refine ⟨?_, ?_⟩
                    · simp only [Again, pick, List.getElem?_toArray, List.getElem?_cons_succ, List.getElem?_cons_zero]
                      refine ⟨?_, ?_, ?_, ?_, ?_, ?_, ?_, ?_, trivial⟩
                      all_goals (still_step; exact wpStill_nil rfl)
                    refine tr_loud ?_
                    simp only [pick, List.getElem?_toArray, List.getElem?_cons_succ, List.getElem?_cons_zero]
                    have d0 : wc.cell? ⟨b10', 0, none⟩ = some (.int .i64 0) := cell_of_row wc _ 0 _ _ _ D10.out
                    have d1 : wc.cell? ⟨b10', 1, none⟩ = some (.slice none 0 0) := cell_of_row wc _ 1 _ _ _ D10.out
                    have d2 : wc.frozen? ⟨b10', 0, none⟩ = false := by simp [World.frozen?, D10.out]
                    have d3 : wc.frozen? ⟨b10', 1, none⟩ = false := by simp [World.frozen?, D10.out]
                    go_wp2_with fail
                    obtain ⟨wn, hwn, n1, n2, n3, n4⟩ := two_set D10.out Hc.out ho10 (.int .i64 (allocH ⟨m, os⟩ (1 + p3)).most) (.slice A5 (allocH ⟨m, os⟩ (1 + p3)).objs.length c5)
                    rw [hwn]
                    replace Hv := Lib.hid (far_keep Hv.out (by decide) (b := b10') (by simp) n3)
                    replace D10 := Lib.hid n2
                    replace hs10 : b10' < wn.heap.size := by rw [n1]; exact hs10
                    replace D11 := Lib.hid ((n3 b11 (by omega)).trans D11.out)
                    replace hs11 : b11 < wn.heap.size := by rw [n1]; exact hs11
                    replace Hc := Lib.hid n4
                    replace hsz : W0.heap.size ≤ wn.heap.size := by rw [n1]; exact hsz
                    obtain ⟨r10, q10, r6, q6, r4, q4, -⟩ := (HL1.out.after Hc.out).rules
                    dsimp only at r10 q10 r6 q6 r4 q4
                    clear d0 d1 d2 d3 hwn n1 n2 n3 n4
                    refine ⟨?_, ?_⟩
                    · simp only [Again, pick, List.getElem?_toArray, List.getElem?_cons_succ, List.getElem?_cons_zero]
                      refine ⟨?_, ?_, trivial⟩
                      all_goals (still_step; exact wpStill_nil rfl)
                    generalize wn = wc at *
                    refine tr_loud ?_
                    simp only [pick, List.getElem?_toArray, List.getElem?_cons_succ, List.getElem?_cons_zero]
                    have d0 : wc.cell? ⟨b11, 0, none⟩ = some (.int .i64 0) := cell_of_row wc _ 0 _ _ _ D11.out
                    have d1 : wc.cell? ⟨b11, 1, none⟩ = some (.int .i64 0) := cell_of_row wc _ 1 _ _ _ D11.out
                    have d2 : wc.frozen? ⟨b11, 0, none⟩ = false := by simp [World.frozen?, D11.out]
                    have d3 : wc.frozen? ⟨b11, 1, none⟩ = false := by simp [World.frozen?, D11.out]
                    go_wp2_with fail
                    obtain ⟨wn, hwn, n1, n2, n3, n4⟩ := two_set D11.out Hc.out ho11 (.int .i64 (allocV ⟨m, os⟩ (1 + p3)).k) (.int .i64 (allocV ⟨m, os⟩ (1 + p3)).n)
                    rw [hwn]
                    replace Hv := Lib.hid (far_keep Hv.out (by decide) (b := b11) (by simp) n3)
                    replace D10 := Lib.hid ((n3 b10' (by omega)).trans D10.out)
                    replace D11 := Lib.hid n2
                    replace Hc := Lib.hid n4
                    clear d0 d1 d2 d3 hwn n1 n2 n3 n4
                    refine ⟨?_, ?_⟩
                    · simp only [Again, pick, List.getElem?_toArray, List.getElem?_cons_succ, List.getElem?_cons_zero]
                      refine ⟨?_, trivial⟩
                      all_goals (still_step; exact wpStill_nil rfl)
                    generalize wn = wc at *
                    refine tr_still ?_
                    simp only [pick, List.getElem?_toArray, List.getElem?_cons_succ, List.getElem?_cons_zero]
                    repeat still_step
                    refine wpStill_nil ?_
                    refine tr_done ?_
                    refine ⟨b10', b11, A5, c5, Locs.cons D11.out (Locs.cons D10.out Locs.nil), far_all Hv.out (by decide), Hc.out, ho10, ho11, ?_⟩
                    repeat (apply Exists.intro)
                    simp only [Act.put, List.setIfInBounds_toArray, List.set_cons_succ, List.set_cons_zero]
                    rfl
                  · refine tr_loud ?_
                    simp only [pick, List.getElem?_toArray, List.getElem?_cons_succ, List.getElem?_cons_zero]
                    go_wp2_with fail
                    have D11 := Lib.hid (show (wc.alloc (.cells #[.int .i64 0, .int .i64 0] 30)).heap[wc.heap.size]? = some (.cells #[.int .i64 0, .int .i64 0] 30 (0, 0)) from blk_at rfl)
                    have hs11 : wc.heap.size < (wc.alloc (.cells #[.int .i64 0, .int .i64 0] 30)).heap.size := by simp
                    have hbn : Below wc.heap.size wc (wc.alloc (.cells #[.int .i64 0, .int .i64 0] 30)) := (Below.refl _ _).alloc (Nat.le_refl _) _
                    have hne : b10' < wc.heap.size := hs10
                    replace D10 := Lib.hid ((hbn.block _ hs10).trans D10.out)
                    replace hs10 := Nat.lt_of_lt_of_le hs10 hbn.size
                    have ho11 : W0.heap.size ≤ wc.heap.size := hsz
                    replace Hc := Lib.hid (below_after Hc.out hbn)
                    replace hsz := Nat.le_trans hsz hbn.size
                    obtain ⟨r10, q10, r6, q6, r4, q4, -⟩ := (HL1.out.after Hc.out).rules
                    dsimp only at r10 q10 r6 q6 r4 q4
                    clear hbn
                    generalize wc.heap.size = b11 at *
                    generalize wc.alloc (.cells #[.int .i64 0, .int .i64 0] 30) = wc at *
                    refine ⟨?_, ?_⟩
                    · simp only [Again, pick, List.getElem?_toArray, List.getElem?_cons_succ, List.getElem?_cons_zero]
                      refine ⟨?_, ?_, ?_, ?_, trivial⟩
                      all_goals (still_step; exact wpStill_nil rfl)
                    refine tr_loud ?_
                    simp only [pick, List.getElem?_toArray, List.getElem?_cons_succ, List.getElem?_cons_zero]
                    go_wp2_with fail
                    refine (alloc_any m _ A c os (1 + p3) _ (Hos1.out.below (by decide) Hc.out)).mono ?_
                    rintro e wn ⟨v5, rfl, ⟨A5, c5, rfl, hv5⟩, hb5⟩
                    have Hv := Lib.hid (far_new (L := [b10', b11]) hv5 (by decide) hsz (by simp; omega))
                    replace Hc := Lib.hid (below_after Hc.out hb5)
                    replace D10 := Lib.hid ((hb5.block _ hs10).trans D10.out)
                    replace hs10 := Nat.lt_of_lt_of_le hs10 hb5.size
                    replace D11 := Lib.hid ((hb5.block _ hs11).trans D11.out)
                    replace hs11 := Nat.lt_of_lt_of_le hs11 hb5.size
                    replace hsz := Nat.le_trans hsz hb5.size
                    obtain ⟨r10, q10, r6, q6, r4, q4, -⟩ := (HL1.out.after Hc.out).rules
                    dsimp only at r10 q10 r6 q6 r4 q4
                    clear hv5 hb5
                    go_wp2_with fail
                    refine ⟨trivial, ?_⟩
                    generalize wn = wc at *
                    refine tr_still ?_
                    simp only [pick, List.getElem?_toArray, List.getElem?_cons_succ, List.getElem?_cons_zero]
                    repeat still_step
                    refine wpStill_nil ?_
                    refine tr_loud ?_
                    simp only [pick, List.getElem?_toArray, List.getElem?_cons_succ, List.getElem?_cons_zero]
                    have d0 : wc.cell? ⟨b10', 0, none⟩ = some (.int .i64 0) := cell_of_row wc _ 0 _ _ _ D10.out
                    have d1 : wc.cell? ⟨b10', 1, none⟩ = some (.slice none 0 0) := cell_of_row wc _ 1 _ _ _ D10.out
                    have d2 : wc.frozen? ⟨b10', 0, none⟩ = false := by simp [World.frozen?, D10.out]
                    have d3 : wc.frozen? ⟨b10', 1, none⟩ = false := by simp [World.frozen?, D10.out]
                    go_wp2_with fail
                    obtain ⟨wn, hwn, n1, n2, n3, n4⟩ := two_set D10.out Hc.out ho10 (.int .i64 (allocH ⟨m, os⟩ (1 + p3)).most) (.slice A5 (allocH ⟨m, os⟩ (1 + p3)).objs.length c5)
                    rw [hwn]
                    replace Hv := Lib.hid (far_keep Hv.out (by decide) (b := b10') (by simp) n3)
                    replace D10 := Lib.hid n2
                    replace hs10 : b10' < wn.heap.size := by rw [n1]; exact hs10
                    replace D11 := Lib.hid ((n3 b11 (by omega)).trans D11.out)
                    replace hs11 : b11 < wn.heap.size := by rw [n1]; exact hs11
                    replace Hc := Lib.hid n4
                    replace hsz : W0.heap.size ≤ wn.heap.size := by rw [n1]; exact hsz
                    obtain ⟨r10, q10, r6, q6, r4, q4, -⟩ := (HL1.out.after Hc.out).rules
                    dsimp only at r10 q10 r6 q6 r4 q4
                    clear d0 d1 d2 d3 hwn n1 n2 n3 n4
                    refine ⟨?_, ?_⟩
                    · simp only [Again, pick, List.getElem?_toArray, List.getElem?_cons_succ, List.getElem?_cons_zero]
                      refine ⟨?_, ?_, trivial⟩
                      all_goals (still_step; exact wpStill_nil rfl)
                    generalize wn = wc at *
                    refine tr_loud ?_
                    simp only [pick, List.getElem?_toArray, List.getElem?_cons_succ, List.getElem?_cons_zero]
                    have d0 : wc.cell? ⟨b11, 0, none⟩ = some (.int .i64 0) := cell_of_row wc _ 0 _ _ _ D11.out
                    have d1 : wc.cell? ⟨b11, 1, none⟩ = some (.int .i64 0) := cell_of_row wc _ 1 _ _ _ D11.out
                    have d2 : wc.frozen? ⟨b11, 0, none⟩ = false := by simp [World.frozen?, D11.out]
                    have d3 : wc.frozen? ⟨b11, 1, none⟩ = false := by simp [World.frozen?, D11.out]
                    go_wp2_with fail
                    obtain ⟨wn, hwn, n1, n2, n3, n4⟩ := two_set D11.out Hc.out ho11 (.int .i64 (allocV ⟨m, os⟩ (1 + p3)).k) (.int .i64 (allocV ⟨m, os⟩ (1 + p3)).n)
                    rw [hwn]
                    replace Hv := Lib.hid (far_keep Hv.out (by decide) (b := b11) (by simp) n3)
                    replace D10 := Lib.hid ((n3 b10' (by omega)).trans D10.out)
                    replace D11 := Lib.hid n2
                    replace Hc := Lib.hid n4
                    clear d0 d1 d2 d3 hwn n1 n2 n3 n4
                    refine ⟨?_, ?_⟩
                    · simp only [Again, pick, List.getElem?_toArray, List.getElem?_cons_succ, List.getElem?_cons_zero]
                      refine ⟨?_, trivial⟩
                      all_goals (still_step; exact wpStill_nil rfl)
                    generalize wn = wc at *
                    refine tr_still ?_
                    simp only [pick, List.getElem?_toArray, List.getElem?_cons_succ, List.getElem?_cons_zero]
                    repeat still_step
                    refine wpStill_nil ?_
                    refine tr_done ?_
                    refine ⟨b10', b11, A5, c5, Locs.cons D11.out (Locs.cons D10.out Locs.nil), far_all Hv.out (by decide), Hc.out, ho10, ho11, ?_⟩
                    repeat (apply Exists.intro)
                    simp only [Act.put, List.setIfInBounds_toArray, List.set_cons_succ, List.set_cons_zero]
                    rfl
                · refine tr_loud ?_
                  simp only [pick, List.getElem?_toArray, List.getElem?_cons_succ, List.getElem?_cons_zero]
                  go_wp2_with fail
                  have D11 := Lib.hid (show (wc.alloc (.cells #[.int .i64 0, .int .i64 0] 30)).heap[wc.heap.size]? = some (.cells #[.int .i64 0, .int .i64 0] 30 (0, 0)) from blk_at rfl)
                  have hs11 : wc.heap.size < (wc.alloc (.cells #[.int .i64 0, .int .i64 0] 30)).heap.size := by simp
                  have hbn : Below wc.heap.size wc (wc.alloc (.cells #[.int .i64 0, .int .i64 0] 30)) := (Below.refl _ _).alloc (Nat.le_refl _) _
                  have ho11 : W0.heap.size ≤ wc.heap.size := hsz
                  replace Hc := Lib.hid (below_after Hc.out hbn)
                  replace hsz := Nat.le_trans hsz hbn.size
                  obtain ⟨r10, q10, r6, q6, r4, q4, -⟩ := (HL1.out.after Hc.out).rules
                  dsimp only at r10 q10 r6 q6 r4 q4
                  clear hbn
                  generalize wc.heap.size = b11 at *
                  generalize wc.alloc (.cells #[.int .i64 0, .int .i64 0] 30) = wc at *
                  refine ⟨?_, ?_⟩
                  · simp only [Again, pick, List.getElem?_toArray]
                    refine ⟨?_, ?_, ?_, ?_, trivial⟩
                    all_goals (still_step; exact wpStill_nil rfl)
                  refine tr_alt ?_ ?_
                  · refine tr_loud ?_
                    simp only [pick, List.getElem?_toArray, List.getElem?_cons_succ, List.getElem?_cons_zero]
                    go_wp2_with fail
                    refine (alloc_any m _ A c os (1 + p3) _ (Hos1.out.below (by decide) Hc.out)).mono ?_
                    rintro e wn ⟨v5, rfl, ⟨A5, c5, rfl, hv5⟩, hb5⟩
                    have Hv := Lib.hid (far_new (L := [b11]) hv5 (by decide) hsz (by simp; omega))
                    replace Hc := Lib.hid (below_after Hc.out hb5)
                    replace D11 := Lib.hid ((hb5.block _ hs11).trans D11.out)
                    replace hs11 := Nat.lt_of_lt_of_le hs11 hb5.size
                    replace hsz := Nat.le_trans hsz hb5.size
                    obtain ⟨r10, q10, r6, q6, r4, q4, -⟩ := (HL1.out.after Hc.out).rules
                    dsimp only at r10 q10 r6 q6 r4 q4
                    clear hv5 hb5
                    go_wp2_with fail
                    refine ⟨trivial, ?_⟩
                    generalize wn = wc at *
                    refine tr_still ?_
                    simp only [pick, List.getElem?_toArray, List.getElem?_cons_succ, List.getElem?_cons_zero]
                    repeat still_step
                    refine wpStill_nil ?_
                    refine tr_loud ?_
                    simp only [pick, List.getElem?_toArray, List.getElem?_cons_succ, List.getElem?_cons_zero]
                    go_wp2_with fail
                    have D10 := Lib.hid (show (wc.alloc (.cells #[.int .i64 0, .slice none 0 0] 25)).heap[wc.heap.size]? = some (.cells #[.int .i64 0, .slice none 0 0] 25 (0, 0)) from blk_at rfl)
                    have hs10 : wc.heap.size < (wc.alloc (.cells #[.int .i64 0, .slice none 0 0] 25)).heap.size := by simp
                    have hbn : Below wc.heap.size wc (wc.alloc (.cells #[.int .i64 0, .slice none 0 0] 25)) := (Below.refl _ _).alloc (Nat.le_refl _) _
                    replace Hv := Lib.hid (far_cons Hv.out (by decide) hbn)
                    have hne : b11 < wc.heap.size := hs11
                    replace D11 := Lib.hid ((hbn.block _ hs11).trans D11.out)
                    replace hs11 := Nat.lt_of_lt_of_le hs11 hbn.size
                    have ho10 : W0.heap.size ≤ wc.heap.size := hsz
                    replace Hc := Lib.hid (below_after Hc.out hbn)
                    replace hsz := Nat.le_trans hsz hbn.size
                    obtain ⟨r10, q10, r6, q6, r4, q4, -⟩ := (HL1.out.after Hc.out).rules
                    dsimp only at r10 q10 r6 q6 r4 q4
                    clear hbn
                    generalize wc.heap.size = b10' at *
                    generalize wc.alloc (.cells #[.int .i64 0, .slice none 0 0] 25) = wc at *
                    refine ⟨?_, ?_⟩
                    · simp only [Again, pick, List.getElem?_toArray, List.getElem?_cons_succ, List.getElem?_cons_zero]
                      refine ⟨?_, ?_, ?_, ?_, ?_, ?_, ?_, ?_, trivial⟩
                      all_goals (still_step; exact wpStill_nil rfl)
                    refine tr_loud ?_
                    simp only [pick, List.getElem?_toArray, List.getElem?_cons_succ, List.getElem?_cons_zero]
                    have d0 : wc.cell? ⟨b10', 0, none⟩ = some (.int .i64 0) := cell_of_row wc _ 0 _ _ _ D10.out
                    have d1 : wc.cell? ⟨b10', 1, none⟩ = some (.slice none 0 0) := cell_of_row wc _ 1 _ _ _ D10.out
                    have d2 : wc.frozen? ⟨b10', 0, none⟩ = false := by simp [World.frozen?, D10.out]
                    have d3 : wc.frozen? ⟨b10', 1, none⟩ = false := by simp [World.frozen?, D10.out]
                    go_wp2_with fail
                    obtain ⟨wn, hwn, n1, n2, n3, n4⟩ := two_set D10.out Hc.out ho10 (.int .i64 (allocH ⟨m, os⟩ (1 + p3)).most) (.slice A5 (allocH ⟨m, os⟩ (1 + p3)).objs.length c5)
                    rw [hwn]
                    replace Hv := Lib.hid (far_keep Hv.out (by decide) (b := b10') (by simp) n3)
                    replace D10 := Lib.hid n2
                    replace hs10 : b10' < wn.heap.size := by rw [n1]; exact hs10
                    replace D11 := Lib.hid ((n3 b11 (by omega)).trans D11.out)
                    replace hs11 : b11 < wn.heap.size := by rw [n1]; exact hs11
                    replace Hc := Lib.hid n4
                    replace hsz : W0.heap.size ≤ wn.heap.size := by rw [n1]; exact hsz
                    obtain ⟨r10, q10, r6, q6, r4, q4, -⟩ := (HL1.out.after Hc.out).rules
                    dsimp only at r10 q10 r6 q6 r4 q4
                    clear d0 d1 d2 d3 hwn n1 n2 n3 n4
                    refine ⟨?_, ?_⟩
                    · simp only [Again, pick, List.getElem?_toArray, List.getElem?_cons_succ, List.getElem?_cons_zero]
                      refine ⟨?_, ?_, trivial⟩
                      all_goals (still_step; exact wpStill_nil rfl)
                    generalize wn = wc at *
                    refine tr_loud ?_
                    simp only [pick, List.getElem?_toArray, List.getElem?_cons_succ, List.getElem?_cons_zero]
                    have d0 : wc.cell? ⟨b11, 0, none⟩ = some (.int .i64 0) := cell_of_row wc _ 0 _ _ _ D11.out
                    have d1 : wc.cell? ⟨b11, 1, none⟩ = some (.int .i64 0) := cell_of_row wc _ 1 _ _ _ D11.out
                    have d2 : wc.frozen? ⟨b11, 0, none⟩ = false := by simp [World.frozen?, D11.out]
                    have d3 : wc.frozen? ⟨b11, 1, none⟩ = false := by simp [World.frozen?, D11.out]
                    go_wp2_with fail
                    obtain ⟨wn, hwn, n1, n2, n3, n4⟩ := two_set D11.out Hc.out ho11 (.int .i64 (allocV ⟨m, os⟩ (1 + p3)).k) (.int .i64 (allocV ⟨m, os⟩ (1 + p3)).n)
                    rw [hwn]
                    replace Hv := Lib.hid (far_keep Hv.out (by decide) (b := b11) (by simp) n3)
                    replace D10 := Lib.hid ((n3 b10' (by omega)).trans D10.out)
                    replace D11 := Lib.hid n2
                    replace Hc := Lib.hid n4
                    clear d0 d1 d2 d3 hwn n1 n2 n3 n4
                    refine ⟨?_, ?_⟩
                    · simp only [Again, pick, List.getElem?_toArray, List.getElem?_cons_succ, List.getElem?_cons_zero]
                      refine ⟨?_, trivial⟩
                      all_goals (still_step; exact wpStill_nil rfl)
                    generalize wn = wc at *
                    refine tr_still ?_
                    simp only [pick, List.getElem?_toArray, List.getElem?_cons_succ, List.getElem?_cons_zero]
                    repeat still_step
                    refine wpStill_nil ?_
                    refine tr_done ?_
                    refine ⟨b10', b11, A5, c5, Locs.cons D11.out (Locs.cons D10.out Locs.nil), far_all Hv.out (by decide), Hc.out, ho10, ho11, ?_⟩
                    repeat (apply Exists.intro)
                    simp only [Act.put, List.setIfInBounds_toArray, List.set_cons_succ, List.set_cons_zero]
                    rfl
                  · refine tr_loud ?_
                    simp only [pick, List.getElem?_toArray, List.getElem?_cons_succ, List.getElem?_cons_zero]
                    go_wp2_with fail
                    have D10 := Lib.hid (show (wc.alloc (.cells #[.int .i64 0, .slice none 0 0] 25)).heap[wc.heap.size]? = some (.cells #[.int .i64 0, .slice none 0 0] 25 (0, 0)) from blk_at rfl)
                    have hs10 : wc.heap.size < (wc.alloc (.cells #[.int .i64 0, .slice none 0 0] 25)).heap.size := by simp
                    have hbn : Below wc.heap.size wc (wc.alloc (.cells #[.int .i64 0, .slice none 0 0] 25)) := (Below.refl _ _).alloc (Nat.le_refl _) _
                    have hne : b11 < wc.heap.size := hs11
                    replace D11 := Lib.hid ((hbn.block _ hs11).trans D11.out)
                    replace hs11 := Nat.lt_of_lt_of_le hs11 hbn.size
                    have ho10 : W0.heap.size ≤ wc.heap.size := hsz
                    replace Hc := Lib.hid (below_after Hc.out hbn)
                    replace hsz := Nat.le_trans hsz hbn.size
                    obtain ⟨r10, q10, r6, q6, r4, q4, -⟩ := (HL1.out.after Hc.out).rules
                    dsimp only at r10 q10 r6 q6 r4 q4
                    clear hbn
                    generalize wc.heap.size = b10' at *
                    generalize wc.alloc (.cells #[.int .i64 0, .slice none 0 0] 25) = wc at *
                    refine ⟨?_, ?_⟩
                    · simp only [Again, pick, List.getElem?_toArray, List.getElem?_cons_succ, List.getElem?_cons_zero]
                      refine ⟨?_, ?_, ?_, ?_, trivial⟩
                      all_goals (still_step; exact wpStill_nil rfl)
                    refine tr_loud ?_
                    simp only [pick, List.getElem?_toArray, List.getElem?_cons_succ, List.getElem?_cons_zero]
                    go_wp2_with fail
                    refine (alloc_any m _ A c os (1 + p3) _ (Hos1.out.below (by decide) Hc.out)).mono ?_
                    rintro e wn ⟨v5, rfl, ⟨A5, c5, rfl, hv5⟩, hb5⟩
                    have Hv := Lib.hid (far_new (L := [b10', b11]) hv5 (by decide) hsz (by simp; omega))
                    replace Hc := Lib.hid (below_after Hc.out hb5)
                    replace D10 := Lib.hid ((hb5.block _ hs10).trans D10.out)
                    replace hs10 := Nat.lt_of_lt_of_le hs10 hb5.size
                    replace D11 := Lib.hid ((hb5.block _ hs11).trans D11.out)
                    replace hs11 := Nat.lt_of_lt_of_le hs11 hb5.size
                    replace hsz := Nat.le_trans hsz hb5.size
                    obtain ⟨r10, q10, r6, q6, r4, q4, -⟩ := (HL1.out.after Hc.out).rules
                    dsimp only at r10 q10 r6 q6 r4 q4
                    clear hv5 hb5
                    go_wp2_with fail
                    refine ⟨trivial, ?_⟩
                    generalize wn = wc at *
                    refine tr_still ?_
                    simp only [pick, List.getElem?_toArray, List.getElem?_cons_succ, List.getElem?_cons_zero]
                    repeat still_step
                    refine wpStill_nil ?_
                    refine tr_loud ?_
                    simp only [pick, List.getElem?_toArray, List.getElem?_cons_succ, List.getElem?_cons_zero]
                    have d0 : wc.cell? ⟨b10', 0, none⟩ = some (.int .i64 0) := cell_of_row wc _ 0 _ _ _ D10.out
                    have d1 : wc.cell? ⟨b10', 1, none⟩ = some (.slice none 0 0) := cell_of_row wc _ 1 _ _ _ D10.out
                    have d2 : wc.frozen? ⟨b10', 0, none⟩ = false := by simp [World.frozen?, D10.out]
                    have d3 : wc.frozen? ⟨b10', 1, none⟩ = false := by simp [World.frozen?, D10.out]
                    go_wp2_with fail
                    obtain ⟨wn, hwn, n1, n2, n3, n4⟩ := two_set D10.out Hc.out ho10 (.int .i64 (allocH ⟨m, os⟩ (1 + p3)).most) (.slice A5 (allocH ⟨m, os⟩ (1 + p3)).objs.length c5)
                    rw [hwn]
                    replace Hv := Lib.hid (far_keep Hv.out (by decide) (b := b10') (by simp) n3)
                    replace D10 := Lib.hid n2
                    replace hs10 : b10' < wn.heap.size := by rw [n1]; exact hs10
                    replace D11 := Lib.hid ((n3 b11 (by omega)).trans D11.out)
                    replace hs11 : b11 < wn.heap.size := by rw [n1]; exact hs11
                    replace Hc := Lib.hid n4
                    replace hsz : W0.heap.size ≤ wn.heap.size := by rw [n1]; exact hsz
                    obtain ⟨r10, q10, r6, q6, r4, q4, -⟩ := (HL1.out.after Hc.out).rules
                    dsimp only at r10 q10 r6 q6 r4 q4
                    clear d0 d1 d2 d3 hwn n1 n2 n3 n4
                    refine ⟨?_, ?_⟩
                    · simp only [Again, pick, List.getElem?_toArray, List.getElem?_cons_succ, List.getElem?_cons_zero]
                      refine ⟨?_, ?_, trivial⟩
                      all_goals (still_step; exact wpStill_nil rfl)
                    generalize wn = wc at *
                    refine tr_loud ?_
                    simp only [pick, List.getElem?_toArray, List.getElem?_cons_succ, List.getElem?_cons_zero]
                    have d0 : wc.cell? ⟨b11, 0, none⟩ = some (.int .i64 0) := cell_of_row wc _ 0 _ _ _ D11.out
                    have d1 : wc.cell? ⟨b11, 1, none⟩ = some (.int .i64 0) := cell_of_row wc _ 1 _ _ _ D11.out
                    have d2 : wc.frozen? ⟨b11, 0, none⟩ = false := by simp [World.frozen?, D11.out]
                    have d3 : wc.frozen? ⟨b11, 1, none⟩ = false := by simp [World.frozen?, D11.out]
                    go_wp2_with fail
                    obtain ⟨wn, hwn, n1, n2, n3, n4⟩ := two_set D11.out Hc.out ho11 (.int .i64 (allocV ⟨m, os⟩ (1 + p3)).k) (.int .i64 (allocV ⟨m, os⟩ (1 + p3)).n)
                    rw [hwn]
                    replace Hv := Lib.hid (far_keep Hv.out (by decide) (b := b11) (by simp) n3)
                    replace D10 := Lib.hid ((n3 b10' (by omega)).trans D10.out)
                    replace D11 := Lib.hid n2
                    replace Hc := Lib.hid n4
                    clear d0 d1 d2 d3 hwn n1 n2 n3 n4
                    refine ⟨?_, ?_⟩
                    · simp only [Again, pick, List.getElem?_toArray, List.getElem?_cons_succ, List.getElem?_cons_zero]
                      refine ⟨?_, trivial⟩
                      all_goals (still_step; exact wpStill_nil rfl)
                    generalize wn = wc at *
                    refine tr_still ?_
                    simp only [pick, List.getElem?_toArray, List.getElem?_cons_succ, List.getElem?_cons_zero]
                    repeat still_step
                    refine wpStill_nil ?_
                    refine tr_done ?_
                    refine ⟨b10', b11, A5, c5, Locs.cons D11.out (Locs.cons D10.out Locs.nil), far_all Hv.out (by decide), Hc.out, ho10, ho11, ?_⟩
                    repeat (apply Exists.intro)
                    simp only [Act.put, List.setIfInBounds_toArray, List.set_cons_succ, List.set_cons_zero]
                    rfl
            · refine tr_alt ?_ ?_
              · refine tr_loud ?_
                simp only [pick, List.getElem?_toArray, List.getElem?_cons_succ, List.getElem?_cons_zero]
                go_wp2_with fail
                have D10 := Lib.hid (show (wc.alloc (.cells #[.int .i64 0, .slice none 0 0] 25)).heap[wc.heap.size]? = some (.cells #[.int .i64 0, .slice none 0 0] 25 (0, 0)) from blk_at rfl)
                have hs10 : wc.heap.size < (wc.alloc (.cells #[.int .i64 0, .slice none 0 0] 25)).heap.size := by simp
                have hbn : Below wc.heap.size wc (wc.alloc (.cells #[.int .i64 0, .slice none 0 0] 25)) := (Below.refl _ _).alloc (Nat.le_refl _) _
                have ho10 : W0.heap.size ≤ wc.heap.size := hsz
                replace Hc := Lib.hid (below_after Hc.out hbn)
                replace hsz := Nat.le_trans hsz hbn.size
                obtain ⟨r10, q10, r6, q6, r4, q4, -⟩ := (HL1.out.after Hc.out).rules
                dsimp only at r10 q10 r6 q6 r4 q4
                clear hbn
                generalize wc.heap.size = b10' at *
                generalize wc.alloc (.cells #[.int .i64 0, .slice none 0 0] 25) = wc at *
                refine ⟨?_, ?_⟩
                · simp only [Again, pick, List.getElem?_toArray, List.getElem?_cons_succ, List.getElem?_cons_zero]
                  refine ⟨?_, ?_, ?_, trivial⟩
                  all_goals (still_step; exact wpStill_nil rfl)
                refine tr_alt ?_ ?_
                · refine tr_loud ?_
                  simp only [pick, List.getElem?_toArray, List.getElem?_cons_succ, List.getElem?_cons_zero]
                  go_wp2_with fail
                  refine (G3.out _).mono ?_
                  rintro e w' ⟨rfl, rfl⟩
                  go_wp2_with fail
                  refine ⟨?_, ?_⟩
                  · simp only [Again, pick, List.getElem?_toArray]
                    refine ⟨?_, trivial⟩
                    all_goals (still_step; exact wpStill_nil rfl)
                  refine tr_still ?_
                  simp only [pick, List.getElem?_toArray, List.getElem?_cons_succ, List.getElem?_cons_zero]
                  repeat still_step
                  refine wpStill_nil ?_
                  refine tr_alt ?_ ?_
                  · refine tr_loud ?_
                    simp only [pick, List.getElem?_toArray, List.getElem?_cons_succ, List.getElem?_cons_zero]
                    go_wp2_with fail
                    refine (alloc_any m _ A c os (1 + p3) _ (Hos1.out.below (by decide) Hc.out)).mono ?_
                    rintro e wn ⟨v5, rfl, ⟨A5, c5, rfl, hv5⟩, hb5⟩
                    have Hv := Lib.hid (far_new (L := [b10']) hv5 (by decide) hsz (by simp; omega))
                    replace Hc := Lib.hid (below_after Hc.out hb5)
                    replace D10 := Lib.hid ((hb5.block _ hs10).trans D10.out)
                    replace hs10 := Nat.lt_of_lt_of_le hs10 hb5.size
                    replace hsz := Nat.le_trans hsz hb5.size
                    obtain ⟨r10, q10, r6, q6, r4, q4, -⟩ := (HL1.out.after Hc.out).rules
                    dsimp only at r10 q10 r6 q6 r4 q4
                    clear hv5 hb5
                    go_wp2_with fail
                    refine ⟨trivial, ?_⟩
                    generalize wn = wc at *
                    refine tr_still ?_
                    simp only [pick, List.getElem?_toArray, List.getElem?_cons_succ, List.getElem?_cons_zero]
                    repeat still_step
                    refine wpStill_nil ?_
                    refine tr_loud ?_
                    simp only [pick, List.getElem?_toArray, List.getElem?_cons_succ, List.getElem?_cons_zero]
                    go_wp2_with fail
                    have D11 := Lib.hid (show (wc.alloc (.cells #[.int .i64 0, .int .i64 0] 30)).heap[wc.heap.size]? = some (.cells #[.int .i64 0, .int .i64 0] 30 (0, 0)) from blk_at rfl)
                    have hs11 : wc.heap.size < (wc.alloc (.cells #[.int .i64 0, .int .i64 0] 30)).heap.size := by simp
                    have hbn : Below wc.heap.size wc (wc.alloc (.cells #[.int .i64 0, .int .i64 0] 30)) := (Below.refl _ _).alloc (Nat.le_refl _) _
                    replace Hv := Lib.hid (far_cons Hv.out (by decide) hbn)
                    have hne : b10' < wc.heap.size := hs10
                    replace D10 := Lib.hid ((hbn.block _ hs10).trans D10.out)
                    replace hs10 := Nat.lt_of_lt_of_le hs10 hbn.size
                    have ho11 : W0.heap.size ≤ wc.heap.size := hsz
                    replace Hc := Lib.hid (below_after Hc.out hbn)
                    replace hsz := Nat.le_trans hsz hbn.size
                    obtain ⟨r10, q10, r6, q6, r4, q4, -⟩ := (HL1.out.after Hc.out).rules
                    dsimp only at r10 q10 r6 q6 r4 q4
                    clear hbn
                    generalize wc.heap.size = b11 at *
                    generalize wc.alloc (.cells #[.int .i64 0, .int .i64 0] 30) = wc at *
                    refine ⟨?_, ?_⟩
                    · simp only [Again, pick, List.getElem?_toArray, List.getElem?_cons_succ, List.getElem?_cons_zero]
                      refine ⟨?_, ?_, ?_, ?_, ?_, ?_, ?_, ?_, trivial⟩
                      all_goals (still_step; exact wpStill_nil rfl)
                    refine tr_loud ?_
                    simp only [pick, List.getElem?_toArray, List.getElem?_cons_succ, List.getElem?_cons_zero]
                    have d0 : wc.cell? ⟨b10', 0, none⟩ = some (.int .i64 0) := cell_of_row wc _ 0 _ _ _ D10.out
                    have d1 : wc.cell? ⟨b10', 1, none⟩ = some (.slice none 0 0) := cell_of_row wc _ 1 _ _ _ D10.out
                    have d2 : wc.frozen? ⟨b10', 0, none⟩ = false := by simp [World.frozen?, D10.out]
                    have d3 : wc.frozen? ⟨b10', 1, none⟩ = false := by simp [World.frozen?, D10.out]
                    go_wp2_with fail
                    obtain ⟨wn, hwn, n1, n2, n3, n4⟩ := two_set D10.out Hc.out ho10 (.int .i64 (allocH ⟨m, os⟩ (1 + p3)).most) (.slice A5 (allocH ⟨m, os⟩ (1 + p3)).objs.length c5)
                    rw [hwn]
                    replace Hv := Lib.hid (far_keep Hv.out (by decide) (b := b10') (by simp) n3)
                    replace D10 := Lib.hid n2
                    replace hs10 : b10' < wn.heap.size := by rw [n1]; exact hs10
                    replace D11 := Lib.hid ((n3 b11 (by omega)).trans D11.out)
                    replace hs11 : b11 < wn.heap.size := by rw [n1]; exact hs11
                    replace Hc := Lib.hid n4
                    replace hsz : W0.heap.size ≤ wn.heap.size := by rw [n1]; exact hsz
                    obtain ⟨r10, q10, r6, q6, r4, q4, -⟩ := (HL1.out.after Hc.out).rules
                    dsimp only at r10 q10 r6 q6 r4 q4
                    clear d0 d1 d2 d3 hwn n1 n2 n3 n4
                    refine ⟨?_, ?_⟩
                    · simp only [Again, pick, List.getElem?_toArray, List.getElem?_cons_succ, List.getElem?_cons_zero]
                      refine ⟨?_, ?_, trivial⟩
                      all_goals (still_step; exact wpStill_nil rfl)
                    generalize wn = wc at *
                    refine tr_loud ?_
                    simp only [pick, List.getElem?_toArray, List.getElem?_cons_succ, List.getElem?_cons_zero]
                    have d0 : wc.cell? ⟨b11, 0, none⟩ = some (.int .i64 0) := cell_of_row wc _ 0 _ _ _ D11.out
                    have d1 : wc.cell? ⟨b11, 1, none⟩ = some (.int .i64 0) := cell_of_row wc _ 1 _ _ _ D11.out
                    have d2 : wc.frozen? ⟨b11, 0, none⟩ = false := by simp [World.frozen?, D11.out]
                    have d3 : wc.frozen? ⟨b11, 1, none⟩ = false := by simp [World.frozen?, D11.out]
                    go_wp2_with fail
                    obtain ⟨wn, hwn, n1, n2, n3, n4⟩ := two_set D11.out Hc.out ho11 (.int .i64 (allocV ⟨m, os⟩ (1 + p3)).k) (.int .i64 (allocV ⟨m, os⟩ (1 + p3)).n)
                    rw [hwn]
                    replace Hv := Lib.hid (far_keep Hv.out (by decide) (b := b11) (by simp) n3)
                    replace D10 := Lib.hid ((n3 b10' (by omega)).trans D10.out)
                    replace D11 := Lib.hid n2
                    replace Hc := Lib.hid n4
                    clear d0 d1 d2 d3 hwn n1 n2 n3 n4
                    refine ⟨?_, ?_⟩
                    · simp only [Again, pick, List.getElem?_toArray, List.getElem?_cons_succ, List.getElem?_cons_zero]
                      refine ⟨?_, trivial⟩
                      all_goals (still_step; exact wpStill_nil rfl)
                    generalize wn = wc at *
                    refine tr_still ?_
                    simp only [pick, List.getElem?_toArray, List.getElem?_cons_succ, List.getElem?_cons_zero]
                    repeat still_step
                    refine wpStill_nil ?_
                    refine tr_done ?_
                    refine ⟨b10', b11, A5, c5, Locs.cons D11.out (Locs.cons D10.out Locs.nil), far_all Hv.out (by decide), Hc.out, ho10, ho11, ?_⟩
                    repeat (apply Exists.intro)
                    simp only [Act.put, List.setIfInBounds_toArray, List.set_cons_succ, List.set_cons_zero]
                    rfl
                  · refine tr_loud ?_
                    simp only [pick, List.getElem?_toArray, List.getElem?_cons_succ, List.getElem?_cons_zero]
                    go_wp2_with fail
                    have D11 := Lib.hid (show (wc.alloc (.cells #[.int .i64 0, .int .i64 0] 30)).heap[wc.heap.size]? = some (.cells #[.int .i64 0, .int .i64 0] 30 (0, 0)) from blk_at rfl)
                    have hs11 : wc.heap.size < (wc.alloc (.cells #[.int .i64 0, .int .i64 0] 30)).heap.size := by simp
                    have hbn : Below wc.heap.size wc (wc.alloc (.cells #[.int .i64 0, .int .i64 0] 30)) := (Below.refl _ _).alloc (Nat.le_refl _) _
                    have hne : b10' < wc.heap.size := hs10
                    replace D10 := Lib.hid ((hbn.block _ hs10).trans D10.out)
                    replace hs10 := Nat.lt_of_lt_of_le hs10 hbn.size
                    have ho11 : W0.heap.size ≤ wc.heap.size := hsz
                    replace Hc := Lib.hid (below_after Hc.out hbn)
                    replace hsz := Nat.le_trans hsz hbn.size
                    obtain ⟨r10, q10, r6, q6, r4, q4, -⟩ := (HL1.out.after Hc.out).rules
                    dsimp only at r10 q10 r6 q6 r4 q4
                    clear hbn
                    generalize wc.heap.size = b11 at *
                    generalize wc.alloc (.cells #[.int .i64 0, .int .i64 0] 30) = wc at *
                    refine ⟨?_, ?_⟩
                    · simp only [Again, pick, List.getElem?_toArray, List.getElem?_cons_succ, List.getElem?_cons_zero]
                      refine ⟨?_, ?_, ?_, ?_, trivial⟩
                      all_goals (still_step; exact wpStill_nil rfl)
                    refine tr_loud ?_
                    simp only [pick, List.getElem?_toArray, List.getElem?_cons_succ, List.getElem?_cons_zero]
                    go_wp2_with fail
                    refine (alloc_any m _ A c os (1 + p3) _ (Hos1.out.below (by decide) Hc.out)).mono ?_
                    rintro e wn ⟨v5, rfl, ⟨A5, c5, rfl, hv5⟩, hb5⟩
                    have Hv := Lib.hid (far_new (L := [b10', b11]) hv5 (by decide) hsz (by simp; omega))
                    replace Hc := Lib.hid (below_after Hc.out hb5)
                    replace D10 := Lib.hid ((hb5.block _ hs10).trans D10.out)
                    replace hs10 := Nat.lt_of_lt_of_le hs10 hb5.size
                    replace D11 := Lib.hid ((hb5.block _ hs11).trans D11.out)
                    replace hs11 := Nat.lt_of_lt_of_le hs11 hb5.size
                    replace hsz := Nat.le_trans hsz hb5.size
                    obtain ⟨r10, q10, r6, q6, r4, q4, -⟩ := (HL1.out.after Hc.out).rules
                    dsimp only at r10 q10 r6 q6 r4 q4
                    clear hv5 hb5
                    go_wp2_with fail
                    refine ⟨trivial, ?_⟩
                    generalize wn = wc at *
                    refine tr_still ?_
                    simp only [pick, List.getElem?_toArray, List.getElem?_cons_succ, List.getElem?_cons_zero]
                    repeat still_step
                    refine wpStill_nil ?_
                    refine tr_loud ?_
                    simp only [pick, List.getElem?_toArray, List.getElem?_cons_succ, List.getElem?_cons_zero]
                    have d0 : wc.cell? ⟨b10', 0, none⟩ = some (.int .i64 0) := cell_of_row wc _ 0 _ _ _ D10.out
                    have d1 : wc.cell? ⟨b10', 1, none⟩ = some (.slice none 0 0) := cell_of_row wc _ 1 _ _ _ D10.out
                    have d2 : wc.frozen? ⟨b10', 0, none⟩ = false := by simp [World.frozen?, D10.out]
                    have d3 : wc.frozen? ⟨b10', 1, none⟩ = false := by simp [World.frozen?, D10.out]
                    go_wp2_with fail
                    obtain ⟨wn, hwn, n1, n2, n3, n4⟩ := two_set D10.out Hc.out ho10 (.int .i64 (allocH ⟨m, os⟩ (1 + p3)).most) (.slice A5 (allocH ⟨m, os⟩ (1 + p3)).objs.length c5)
                    rw [hwn]
                    replace Hv := Lib.hid (far_keep Hv.out (by decide) (b := b10') (by simp) n3)
                    replace D10 := Lib.hid n2
                    replace hs10 : b10' < wn.heap.size := by rw [n1]; exact hs10
                    replace D11 := Lib.hid ((n3 b11 (by omega)).trans D11.out)
                    replace hs11 : b11 < wn.heap.size := by rw [n1]; exact hs11
                    replace Hc := Lib.hid n4
                    replace hsz : W0.heap.size ≤ wn.heap.size := by rw [n1]; exact hsz
                    obtain ⟨r10, q10, r6, q6, r4, q4, -⟩ := (HL1.out.after Hc.out).rules
                    dsimp only at r10 q10 r6 q6 r4 q4
                    clear d0 d1 d2 d3 hwn n1 n2 n3 n4
                    refine ⟨?_, ?_⟩
                    · simp only [Again, pick, List.getElem?_toArray, List.getElem?_cons_succ, List.getElem?_cons_zero]
                      refine ⟨?_, ?_, trivial⟩
                      all_goals (still_step; exact wpStill_nil rfl)
                    generalize wn = wc at *
                    refine tr_loud ?_
                    simp only [pick, List.getElem?_toArray, List.getElem?_cons_succ, List.getElem?_cons_zero]
                    have d0 : wc.cell? ⟨b11, 0, none⟩ = some (.int .i64 0) := cell_of_row wc _ 0 _ _ _ D11.out
                    have d1 : wc.cell? ⟨b11, 1, none⟩ = some (.int .i64 0) := cell_of_row wc _ 1 _ _ _ D11.out
                    have d2 : wc.frozen? ⟨b11, 0, none⟩ = false := by simp [World.frozen?, D11.out]
                    have d3 : wc.frozen? ⟨b11, 1, none⟩ = false := by simp [World.frozen?, D11.out]
                    go_wp2_with fail
                    obtain ⟨wn, hwn, n1, n2, n3, n4⟩ := two_set D11.out Hc.out ho11 (.int .i64 (allocV ⟨m, os⟩ (1 + p3)).k) (.int .i64 (allocV ⟨m, os⟩ (1 + p3)).n)
                    rw [hwn]
                    replace Hv := Lib.hid (far_keep Hv.out (by decide) (b := b11) (by simp) n3)
                    replace D10 := Lib.hid ((n3 b10' (by omega)).trans D10.out)
                    replace D11 := Lib.hid n2
                    replace Hc := Lib.hid n4
                    clear d0 d1 d2 d3 hwn n1 n2 n3 n4
                    refine ⟨?_, ?_⟩
                    · simp only [Again, pick, List.getElem?_toArray, List.getElem?_cons_succ, List.getElem?_cons_zero]
                      refine ⟨?_, trivial⟩
                      all_goals (still_step; exact wpStill_nil rfl)
                    generalize wn = wc at *
                    refine tr_still ?_
                    simp only [pick, List.getElem?_toArray, List.getElem?_cons_succ, List.getElem?_cons_zero]
                    repeat still_step
                    refine wpStill_nil ?_
                    refine tr_done ?_
                    refine ⟨b10', b11, A5, c5, Locs.cons D11.out (Locs.cons D10.out Locs.nil), far_all Hv.out (by decide), Hc.out, ho10, ho11, ?_⟩
                    repeat (apply Exists.intro)
                    simp only [Act.put, List.setIfInBounds_toArray, List.set_cons_succ, List.set_cons_zero]
                    rfl
                · refine tr_loud ?_
                  simp only [pick, List.getElem?_toArray, List.getElem?_cons_succ, List.getElem?_cons_zero]
                  go_wp2_with fail
                  have D11 := Lib.hid (show (wc.alloc (.cells #[.int .i64 0, .int .i64 0] 30)).heap[wc.heap.size]? = some (.cells #[.int .i64 0, .int .i64 0] 30 (0, 0)) from blk_at rfl)
                  have hs11 : wc.heap.size < (wc.alloc (.cells #[.int .i64 0, .int .i64 0] 30)).heap.size := by simp
                  have hbn : Below wc.heap.size wc (wc.alloc (.cells #[.int .i64 0, .int .i64 0] 30)) := (Below.refl _ _).alloc (Nat.le_refl _) _
                  have hne : b10' < wc.heap.size := hs10
                  replace D10 := Lib.hid ((hbn.block _ hs10).trans D10.out)
                  replace hs10 := Nat.lt_of_lt_of_le hs10 hbn.size
                  have ho11 : W0.heap.size ≤ wc.heap.size := hsz
                  replace Hc := Lib.hid (below_after Hc.out hbn)
                  replace hsz := Nat.le_trans hsz hbn.size
                  obtain ⟨r10, q10, r6, q6, r4, q4, -⟩ := (HL1.out.after Hc.out).rules
                  dsimp only at r10 q10 r6 q6 r4 q4
                  clear hbn
                  generalize wc.heap.size = b11 at *
                  generalize wc.alloc (.cells #[.int .i64 0, .int .i64 0] 30) = wc at *
                  refine ⟨?_, ?_⟩
                  · simp only [Again, pick, List.getElem?_toArray]
                    refine ⟨?_, ?_, ?_, trivial⟩
                    all_goals (still_step; exact wpStill_nil rfl)
                  refine tr_loud ?_
                  simp only [pick, List.getElem?_toArray, List.getElem?_cons_succ, List.getElem?_cons_zero]
                  go_wp2_with fail
                  refine (G3.out _).mono ?_
                  rintro e w' ⟨rfl, rfl⟩
                  go_wp2_with fail
                  refine ⟨?_, ?_⟩
                  · simp only [Again, pick, List.getElem?_toArray]
                    refine ⟨?_, trivial⟩
                    all_goals (still_step; exact wpStill_nil rfl)
                  refine tr_still ?_
                  simp only [pick, List.getElem?_toArray, List.getElem?_cons_succ, List.getElem?_cons_zero]
                  repeat still_step
                  refine wpStill_nil ?_
                  refine tr_loud ?_
                  simp only [pick, List.getElem?_toArray, List.getElem?_cons_succ, List.getElem?_cons_zero]
                  go_wp2_with fail
                  refine (alloc_any m _ A c os (1 + p3) _ (Hos1.out.below (by decide) Hc.out)).mono ?_
                  rintro e wn ⟨v5, rfl, ⟨A5, c5, rfl, hv5⟩, hb5⟩
                  have Hv := Lib.hid (far_new (L := [b10', b11]) hv5 (by decide) hsz (by simp; omega))
                  replace Hc := Lib.hid (below_after Hc.out hb5)
                  replace D10 := Lib.hid ((hb5.block _ hs10).trans D10.out)
                  replace hs10 := Nat.lt_of_lt_of_le hs10 hb5.size
                  replace D11 := Lib.hid ((hb5.block _ hs11).trans D11.out)
                  replace hs11 := Nat.lt_of_lt_of_le hs11 hb5.size
                  replace hsz := Nat.le_trans hsz hb5.size
                  obtain ⟨r10, q10, r6, q6, r4, q4, -⟩ := (HL1.out.after Hc.out).rules
                  dsimp only at r10 q10 r6 q6 r4 q4
                  clear hv5 hb5
                  go_wp2_with fail
                  refine ⟨trivial, ?_⟩
                  generalize wn = wc at *
                  refine tr_still ?_
                  simp only [pick, List.getElem?_toArray, List.getElem?_cons_succ, List.getElem?_cons_zero]
                  repeat still_step
                  refine wpStill_nil ?_
                  refine tr_loud ?_
                  simp only [pick, List.getElem?_toArray, List.getElem?_cons_succ, List.getElem?_cons_zero]
                  have d0 : wc.cell? ⟨b10', 0, none⟩ = some (.int .i64 0) := cell_of_row wc _ 0 _ _ _ D10.out
                  have d1 : wc.cell? ⟨b10', 1, none⟩ = some (.slice none 0 0) := cell_of_row wc _ 1 _ _ _ D10.out
                  have d2 : wc.frozen? ⟨b10', 0, none⟩ = false := by simp [World.frozen?, D10.out]
                  have d3 : wc.frozen? ⟨b10', 1, none⟩ = false := by simp [World.frozen?, D10.out]
                  go_wp2_with fail
                  obtain ⟨wn, hwn, n1, n2, n3, n4⟩ := two_set D10.out Hc.out ho10 (.int .i64 (allocH ⟨m, os⟩ (1 + p3)).most) (.slice A5 (allocH ⟨m, os⟩ (1 + p3)).objs.length c5)
                  rw [hwn]
                  replace Hv := Lib.hid (far_keep Hv.out (by decide) (b := b10') (by simp) n3)
                  replace D10 := Lib.hid n2
                  replace hs10 : b10' < wn.heap.size := by rw [n1]; exact hs10
                  replace D11 := Lib.hid ((n3 b11 (by omega)).trans D11.out)
                  replace hs11 : b11 < wn.heap.size := by rw [n1]; exact hs11
                  replace Hc := Lib.hid n4
                  replace hsz : W0.heap.size ≤ wn.heap.size := by rw [n1]; exact hsz
                  obtain ⟨r10, q10, r6, q6, r4, q4, -⟩ := (HL1.out.after Hc.out).rules
                  dsimp only at r10 q10 r6 q6 r4 q4
                  clear d0 d1 d2 d3 hwn n1 n2 n3 n4
                  refine ⟨?_, ?_⟩
                  · simp only [Again, pick, List.getElem?_toArray]
                    refine ⟨?_, ?_, trivial⟩
                    all_goals (still_step; exact wpStill_nil rfl)
                  generalize wn = wc at *
                  refine tr_loud ?_
                  simp only [pick, List.getElem?_toArray, List.getElem?_cons_succ, List.getElem?_cons_zero]
                  have d0 : wc.cell? ⟨b11, 0, none⟩ = some (.int .i64 0) := cell_of_row wc _ 0 _ _ _ D11.out
                  have d1 : wc.cell? ⟨b11, 1, none⟩ = some (.int .i64 0) := cell_of_row wc _ 1 _ _ _ D11.out
                  have d2 : wc.frozen? ⟨b11, 0, none⟩ = false := by simp [World.frozen?, D11.out]
                  have d3 : wc.frozen? ⟨b11, 1, none⟩ = false := by simp [World.frozen?, D11.out]
                  go_wp2_with fail
                  obtain ⟨wn, hwn, n1, n2, n3, n4⟩ := two_set D11.out Hc.out ho11 (.int .i64 (allocV ⟨m, os⟩ (1 + p3)).k) (.int .i64 (allocV ⟨m, os⟩ (1 + p3)).n)
                  rw [hwn]
                  replace Hv := Lib.hid (far_keep Hv.out (by decide) (b := b11) (by simp) n3)
                  replace D10 := Lib.hid ((n3 b10' (by omega)).trans D10.out)
                  replace D11 := Lib.hid n2
                  replace Hc := Lib.hid n4
                  clear d0 d1 d2 d3 hwn n1 n2 n3 n4
                  refine ⟨?_, ?_⟩
                  · simp only [Again, pick, List.getElem?_toArray]
                    refine ⟨?_, trivial⟩
                    all_goals (still_step; exact wpStill_nil rfl)
                  generalize wn = wc at *
                  refine tr_still ?_
                  simp only [pick, List.getElem?_toArray, List.getElem?_cons_succ, List.getElem?_cons_zero]
                  repeat still_step
                  refine wpStill_nil ?_
                  refine tr_done ?_
                  refine ⟨b10', b11, A5, c5, Locs.cons D11.out (Locs.cons D10.out Locs.nil), far_all Hv.out (by decide), Hc.out, ho10, ho11, ?_⟩
                  repeat (apply Exists.intro)
                  simp only [Act.put, List.setIfInBounds_toArray, List.set_cons_succ, List.set_cons_zero]
                  rfl
              · refine tr_loud ?_
                simp only [pick, List.getElem?_toArray, List.getElem?_cons_succ, List.getElem?_cons_zero]
                go_wp2_with fail
                have D11 := Lib.hid (show (wc.alloc (.cells #[.int .i64 0, .int .i64 0] 30)).heap[wc.heap.size]? = some (.cells #[.int .i64 0, .int .i64 0] 30 (0, 0)) from blk_at rfl)
                have hs11 : wc.heap.size < (wc.alloc (.cells #[.int .i64 0, .int .i64 0] 30)).heap.size := by simp
                have hbn : Below wc.heap.size wc (wc.alloc (.cells #[.int .i64 0, .int .i64 0] 30)) := (Below.refl _ _).alloc (Nat.le_refl _) _
                have ho11 : W0.heap.size ≤ wc.heap.size := hsz
                replace Hc := Lib.hid (below_after Hc.out hbn)
                replace hsz := Nat.le_trans hsz hbn.size
                obtain ⟨r10, q10, r6, q6, r4, q4, -⟩ := (HL1.out.after Hc.out).rules
                dsimp only at r10 q10 r6 q6 r4 q4
                clear hbn
                generalize wc.heap.size = b11 at *
                generalize wc.alloc (.cells #[.int .i64 0, .int .i64 0] 30) = wc at *
                refine ⟨?_, ?_⟩
                · simp only [Again, pick, List.getElem?_toArray, List.getElem?_cons_succ, List.getElem?_cons_zero]
                  refine ⟨?_, ?_, ?_, trivial⟩
                  all_goals (still_step; exact wpStill_nil rfl)
                refine tr_alt ?_ ?_
                · refine tr_loud ?_
                  simp only [pick, List.getElem?_toArray, List.getElem?_cons_succ, List.getElem?_cons_zero]
                  go_wp2_with fail
                  refine (G3.out _).mono ?_
                  rintro e w' ⟨rfl, rfl⟩
                  go_wp2_with fail
                  refine ⟨?_, ?_⟩
                  · simp only [Again, pick, List.getElem?_toArray]
                    refine ⟨?_, trivial⟩
                    all_goals (still_step; exact wpStill_nil rfl)
                  refine tr_still ?_
                  simp only [pick, List.getElem?_toArray, List.getElem?_cons_succ, List.getElem?_cons_zero]
                  repeat still_step
                  refine wpStill_nil ?_
                  refine tr_alt ?_ ?_
                  · refine tr_loud ?_
                    simp only [pick, List.getElem?_toArray, List.getElem?_cons_succ, List.getElem?_cons_zero]
                    go_wp2_with fail
                    refine (alloc_any m _ A c os (1 + p3) _ (Hos1.out.below (by decide) Hc.out)).mono ?_
                    rintro e wn ⟨v5, rfl, ⟨A5, c5, rfl, hv5⟩, hb5⟩
                    have Hv := Lib.hid (far_new (L := [b11]) hv5 (by decide) hsz (by simp; omega))
                    replace Hc := Lib.hid (below_after Hc.out hb5)
                    replace D11 := Lib.hid ((hb5.block _ hs11).trans D11.out)
                    replace hs11 := Nat.lt_of_lt_of_le hs11 hb5.size
                    replace hsz := Nat.le_trans hsz hb5.size
                    obtain ⟨r10, q10, r6, q6, r4, q4, -⟩ := (HL1.out.after Hc.out).rules
                    dsimp only at r10 q10 r6 q6 r4 q4
                    clear hv5 hb5
                    go_wp2_with fail
                    refine ⟨trivial, ?_⟩
                    generalize wn = wc at *
                    refine tr_still ?_
                    simp only [pick, List.getElem?_toArray, List.getElem?_cons_succ, List.getElem?_cons_zero]
                    repeat still_step
                    refine wpStill_nil ?_
                    refine tr_loud ?_
                    simp only [pick, List.getElem?_toArray, List.getElem?_cons_succ, List.getElem?_cons_zero]
                    go_wp2_with fail
                    have D10 := Lib.hid (show (wc.alloc (.cells #[.int .i64 0, .slice none 0 0] 25)).heap[wc.heap.size]? = some (.cells #[.int .i64 0, .slice none 0 0] 25 (0, 0)) from blk_at rfl)
                    have hs10 : wc.heap.size < (wc.alloc (.cells #[.int .i64 0, .slice none 0 0] 25)).heap.size := by simp
                    have hbn : Below wc.heap.size wc (wc.alloc (.cells #[.int .i64 0, .slice none 0 0] 25)) := (Below.refl _ _).alloc (Nat.le_refl _) _
                    replace Hv := Lib.hid (far_cons Hv.out (by decide) hbn)
                    have hne : b11 < wc.heap.size := hs11
                    replace D11 := Lib.hid ((hbn.block _ hs11).trans D11.out)
                    replace hs11 := Nat.lt_of_lt_of_le hs11 hbn.size
                    have ho10 : W0.heap.size ≤ wc.heap.size := hsz
                    replace Hc := Lib.hid (below_after Hc.out hbn)
                    replace hsz := Nat.le_trans hsz hbn.size
                    obtain ⟨r10, q10, r6, q6, r4, q4, -⟩ := (HL1.out.after Hc.out).rules
                    dsimp only at r10 q10 r6 q6 r4 q4
                    clear hbn
                    generalize wc.heap.size = b10' at *
                    generalize wc.alloc (.cells #[.int .i64 0, .slice none 0 0] 25) = wc at *
                    refine ⟨?_, ?_⟩
                    · simp only [Again, pick, List.getElem?_toArray, List.getElem?_cons_succ, List.getElem?_cons_zero]
                      refine ⟨?_, ?_, ?_, ?_, ?_, ?_, ?_, ?_, trivial⟩
                      all_goals (still_step; exact wpStill_nil rfl)
                    refine tr_loud ?_
                    simp only [pick, List.getElem?_toArray, List.getElem?_cons_succ, List.getElem?_cons_zero]
                    have d0 : wc.cell? ⟨b10', 0, none⟩ = some (.int .i64 0) := cell_of_row wc _ 0 _ _ _ D10.out
                    have d1 : wc.cell? ⟨b10', 1, none⟩ = some (.slice none 0 0) := cell_of_row wc _ 1 _ _ _ D10.out
                    have d2 : wc.frozen? ⟨b10', 0, none⟩ = false := by simp [World.frozen?, D10.out]
                    have d3 : wc.frozen? ⟨b10', 1, none⟩ = false := by simp [World.frozen?, D10.out]
                    go_wp2_with fail
                    obtain ⟨wn, hwn, n1, n2, n3, n4⟩ := two_set D10.out Hc.out ho10 (.int .i64 (allocH ⟨m, os⟩ (1 + p3)).most) (.slice A5 (allocH ⟨m, os⟩ (1 + p3)).objs.length c5)
                    rw [hwn]
                    replace Hv := Lib.hid (far_keep Hv.out (by decide) (b := b10') (by simp) n3)
                    replace D10 := Lib.hid n2
                    replace hs10 : b10' < wn.heap.size := by rw [n1]; exact hs10
                    replace D11 := Lib.hid ((n3 b11 (by omega)).trans D11.out)
                    replace hs11 : b11 < wn.heap.size := by rw [n1]; exact hs11
                    replace Hc := Lib.hid n4
                    replace hsz : W0.heap.size ≤ wn.heap.size := by rw [n1]; exact hsz
                    obtain ⟨r10, q10, r6, q6, r4, q4, -⟩ := (HL1.out.after Hc.out).rules
                    dsimp only at r10 q10 r6 q6 r4 q4
                    clear d0 d1 d2 d3 hwn n1 n2 n3 n4
                    refine ⟨?_, ?_⟩
                    · simp only [Again, pick, List.getElem?_toArray, List.getElem?_cons_succ, List.getElem?_cons_zero]
                      refine ⟨?_, ?_, trivial⟩
                      all_goals (still_step; exact wpStill_nil rfl)
                    generalize wn = wc at *
                    refine tr_loud ?_
                    simp only [pick, List.getElem?_toArray, List.getElem?_cons_succ, List.getElem?_cons_zero]
                    have d0 : wc.cell? ⟨b11, 0, none⟩ = some (.int .i64 0) := cell_of_row wc _ 0 _ _ _ D11.out
                    have d1 : wc.cell? ⟨b11, 1, none⟩ = some (.int .i64 0) := cell_of_row wc _ 1 _ _ _ D11.out
                    have d2 : wc.frozen? ⟨b11, 0, none⟩ = false := by simp [World.frozen?, D11.out]
                    have d3 : wc.frozen? ⟨b11, 1, none⟩ = false := by simp [World.frozen?, D11.out]
                    go_wp2_with fail
                    obtain ⟨wn, hwn, n1, n2, n3, n4⟩ := two_set D11.out Hc.out ho11 (.int .i64 (allocV ⟨m, os⟩ (1 + p3)).k) (.int .i64 (allocV ⟨m, os⟩ (1 + p3)).n)
                    rw [hwn]
                    replace Hv := Lib.hid (far_keep Hv.out (by decide) (b := b11) (by simp) n3)
                    replace D10 := Lib.hid ((n3 b10' (by omega)).trans D10.out)
                    replace D11 := Lib.hid n2
                    replace Hc := Lib.hid n4
                    clear d0 d1 d2 d3 hwn n1 n2 n3 n4
                    refine ⟨?_, ?_⟩
                    · simp only [Again, pick, List.getElem?_toArray, List.getElem?_cons_succ, List.getElem?_cons_zero]
                      refine ⟨?_, trivial⟩
                      all_goals (still_step; exact wpStill_nil rfl)
                    generalize wn = wc at *
                    refine tr_still ?_
                    simp only [pick, List.getElem?_toArray, List.getElem?_cons_succ, List.getElem?_cons_zero]
                    repeat still_step
                    refine wpStill_nil ?_
                    refine tr_done ?_
                    refine ⟨b10', b11, A5, c5, Locs.cons D11.out (Locs.cons D10.out Locs.nil), far_all Hv.out (by decide), Hc.out, ho10, ho11, ?_⟩
                    repeat (apply Exists.intro)
                    simp only [Act.put, List.setIfInBounds_toArray, List.set_cons_succ, List.set_cons_zero]
                    rfl
                  · refine tr_loud ?_
                    simp only [pick, List.getElem?_toArray, List.getElem?_cons_succ, List.getElem?_cons_zero]
                    go_wp2_with fail
                    have D10 := Lib.hid (show (wc.alloc (.cells #[.int .i64 0, .slice none 0 0] 25)).heap[wc.heap.size]? = some (.cells #[.int .i64 0, .slice none 0 0] 25 (0, 0)) from blk_at rfl)
                    have hs10 : wc.heap.size < (wc.alloc (.cells #[.int .i64 0, .slice none 0 0] 25)).heap.size := by simp
                    have hbn : Below wc.heap.size wc (wc.alloc (.cells #[.int .i64 0, .slice none 0 0] 25)) := (Below.refl _ _).alloc (Nat.le_refl _) _
                    have hne : b11 < wc.heap.size := hs11
                    replace D11 := Lib.hid ((hbn.block _ hs11).trans D11.out)
                    replace hs11 := Nat.lt_of_lt_of_le hs11 hbn.size
                    have ho10 : W0.heap.size ≤ wc.heap.size := hsz
                    replace Hc := Lib.hid (below_after Hc.out hbn)
                    replace hsz := Nat.le_trans hsz hbn.size
                    obtain ⟨r10, q10, r6, q6, r4, q4, -⟩ := (HL1.out.after Hc.out).rules
                    dsimp only at r10 q10 r6 q6 r4 q4
                    clear hbn
                    generalize wc.heap.size = b10' at *
                    generalize wc.alloc (.cells #[.int .i64 0, .slice none 0 0] 25) = wc at *
                    refine ⟨?_, ?_⟩
                    · simp only [Again, pick, List.getElem?_toArray, List.getElem?_cons_succ, List.getElem?_cons_zero]
                      refine ⟨?_, ?_, ?_, ?_, trivial⟩
                      all_goals (still_step; exact wpStill_nil rfl)
                    refine tr_loud ?_
                    simp only [pick, List.getElem?_toArray, List.getElem?_cons_succ, List.getElem?_cons_zero]
                    go_wp2_with fail
                    refine (alloc_any m _ A c os (1 + p3) _ (Hos1.out.below (by decide) Hc.out)).mono ?_
                    rintro e wn ⟨v5, rfl, ⟨A5, c5, rfl, hv5⟩, hb5⟩
                    have Hv := Lib.hid (far_new (L := [b10', b11]) hv5 (by decide) hsz (by simp; omega))
                    replace Hc := Lib.hid (below_after Hc.out hb5)
                    replace D10 := Lib.hid ((hb5.block _ hs10).trans D10.out)
                    replace hs10 := Nat.lt_of_lt_of_le hs10 hb5.size
                    replace D11 := Lib.hid ((hb5.block _ hs11).trans D11.out)
                    replace hs11 := Nat.lt_of_lt_of_le hs11 hb5.size
                    replace hsz := Nat.le_trans hsz hb5.size
                    obtain ⟨r10, q10, r6, q6, r4, q4, -⟩ := (HL1.out.after Hc.out).rules
                    dsimp only at r10 q10 r6 q6 r4 q4
                    clear hv5 hb5
                    go_wp2_with fail
                    refine ⟨trivial, ?_⟩
                    generalize wn = wc at *
                    refine tr_still ?_
                    simp only [pick, List.getElem?_toArray, List.getElem?_cons_succ, List.getElem?_cons_zero]
                    repeat still_step
                    refine wpStill_nil ?_
                    refine tr_loud ?_
                    simp only [pick, List.getElem?_toArray, List.getElem?_cons_succ, List.getElem?_cons_zero]
                    have d0 : wc.cell? ⟨b10', 0, none⟩ = some (.int .i64 0) := cell_of_row wc _ 0 _ _ _ D10.out
                    have d1 : wc.cell? ⟨b10', 1, none⟩ = some (.slice none 0 0) := cell_of_row wc _ 1 _ _ _ D10.out
                    have d2 : wc.frozen? ⟨b10', 0, none⟩ = false := by simp [World.frozen?, D10.out]
                    have d3 : wc.frozen? ⟨b10', 1, none⟩ = false := by simp [World.frozen?, D10.out]
                    go_wp2_with fail
                    obtain ⟨wn, hwn, n1, n2, n3, n4⟩ := two_set D10.out Hc.out ho10 (.int .i64 (allocH ⟨m, os⟩ (1 + p3)).most) (.slice A5 (allocH ⟨m, os⟩ (1 + p3)).objs.length c5)
                    rw [hwn]
                    replace Hv := Lib.hid (far_keep Hv.out (by decide) (b := b10') (by simp) n3)
                    replace D10 := Lib.hid n2
                    replace hs10 : b10' < wn.heap.size := by rw [n1]; exact hs10
                    replace D11 := Lib.hid ((n3 b11 (by omega)).trans D11.out)
                    replace hs11 : b11 < wn.heap.size := by rw [n1]; exact hs11
                    replace Hc := Lib.hid n4
                    replace hsz : W0.heap.size ≤ wn.heap.size := by rw [n1]; exact hsz
                    obtain ⟨r10, q10, r6, q6, r4, q4, -⟩ := (HL1.out.after Hc.out).rules
                    dsimp only at r10 q10 r6 q6 r4 q4
                    clear d0 d1 d2 d3 hwn n1 n2 n3 n4
                    refine ⟨?_, ?_⟩
                    · simp only [Again, pick, List.getElem?_toArray, List.getElem?_cons_succ, List.getElem?_cons_zero]
                      refine ⟨?_, ?_, trivial⟩
                      all_goals (still_step; exact wpStill_nil rfl)
                    generalize wn = wc at *
                    refine tr_loud ?_
                    simp only [pick, List.getElem?_toArray, List.getElem?_cons_succ, List.getElem?_cons_zero]
                    have d0 : wc.cell? ⟨b11, 0, none⟩ = some (.int .i64 0) := cell_of_row wc _ 0 _ _ _ D11.out
                    have d1 : wc.cell? ⟨b11, 1, none⟩ = some (.int .i64 0) := cell_of_row wc _ 1 _ _ _ D11.out
                    have d2 : wc.frozen? ⟨b11, 0, none⟩ = false := by simp [World.frozen?, D11.out]
                    have d3 : wc.frozen? ⟨b11, 1, none⟩ = false := by simp [World.frozen?, D11.out]
                    go_wp2_with fail
                    obtain ⟨wn, hwn, n1, n2, n3, n4⟩ := two_set D11.out Hc.out ho11 (.int .i64 (allocV ⟨m, os⟩ (1 + p3)).k) (.int .i64 (allocV ⟨m, os⟩ (1 + p3)).n)
                    rw [hwn]
                    replace Hv := Lib.hid (far_keep Hv.out (by decide) (b := b11) (by simp) n3)
                    replace D10 := Lib.hid ((n3 b10' (by omega)).trans D10.out)
                    replace D11 := Lib.hid n2
                    replace Hc := Lib.hid n4
                    clear d0 d1 d2 d3 hwn n1 n2 n3 n4
                    refine ⟨?_, ?_⟩
                    · simp only [Again, pick, List.getElem?_toArray, List.getElem?_cons_succ, List.getElem?_cons_zero]
                      refine ⟨?_, trivial⟩
                      all_goals (still_step; exact wpStill_nil rfl)
                    generalize wn = wc at *
                    refine tr_still ?_
                    simp only [pick, List.getElem?_toArray, List.getElem?_cons_succ, List.getElem?_cons_zero]
                    repeat still_step
                    refine wpStill_nil ?_
                    refine tr_done ?_
                    refine ⟨b10', b11, A5, c5, Locs.cons D11.out (Locs.cons D10.out Locs.nil), far_all Hv.out (by decide), Hc.out, ho10, ho11, ?_⟩
                    repeat (apply Exists.intro)
                    simp only [Act.put, List.setIfInBounds_toArray, List.set_cons_succ, List.set_cons_zero]
                    rfl
                · refine tr_loud ?_
                  simp only [pick, List.getElem?_toArray, List.getElem?_cons_succ, List.getElem?_cons_zero]
                  go_wp2_with fail
                  have D10 := Lib.hid (show (wc.alloc (.cells #[.int .i64 0, .slice none 0 0] 25)).heap[wc.heap.size]? = some (.cells #[.int .i64 0, .slice none 0 0] 25 (0, 0)) from blk_at rfl)
                  have hs10 : wc.heap.size < (wc.alloc (.cells #[.int .i64 0, .slice none 0 0] 25)).heap.size := by simp
                  have hbn : Below wc.heap.size wc (wc.alloc (.cells #[.int .i64 0, .slice none 0 0] 25)) := (Below.refl _ _).alloc (Nat.le_refl _) _
                  have hne : b11 < wc.heap.size := hs11
                  replace D11 := Lib.hid ((hbn.block _ hs11).trans D11.out)
                  replace hs11 := Nat.lt_of_lt_of_le hs11 hbn.size
                  have ho10 : W0.heap.size ≤ wc.heap.size := hsz
                  replace Hc := Lib.hid (below_after Hc.out hbn)
                  replace hsz := Nat.le_trans hsz hbn.size
                  obtain ⟨r10, q10, r6, q6, r4, q4, -⟩ := (HL1.out.after Hc.out).rules
                  dsimp only at r10 q10 r6 q6 r4 q4
                  clear hbn
                  generalize wc.heap.size = b10' at *
                  generalize wc.alloc (.cells #[.int .i64 0, .slice none 0 0] 25) = wc at *
                  refine ⟨?_, ?_⟩
                  · simp only [Again, pick, List.getElem?_toArray]
                    refine ⟨?_, ?_, ?_, trivial⟩
                    all_goals (still_step; exact wpStill_nil rfl)
                  refine tr_loud ?_
                  simp only [pick, List.getElem?_toArray, List.getElem?_cons_succ, List.getElem?_cons_zero]
                  go_wp2_with fail
                  refine (G3.out _).mono ?_
                  rintro e w' ⟨rfl, rfl⟩
                  go_wp2_with fail
                  refine ⟨?_, ?_⟩
                  · simp only [Again, pick, List.getElem?_toArray]
                    refine ⟨?_, trivial⟩
                    all_goals (still_step; exact wpStill_nil rfl)
                  refine tr_still ?_
                  simp only [pick, List.getElem?_toArray, List.getElem?_cons_succ, List.getElem?_cons_zero]
                  repeat still_step
                  refine wpStill_nil ?_
                  refine tr_loud ?_
                  simp only [pick, List.getElem?_toArray, List.getElem?_cons_succ, List.getElem?_cons_zero]
                  go_wp2_with fail
                  refine (alloc_any m _ A c os (1 + p3) _ (Hos1.out.below (by decide) Hc.out)).mono ?_
                  rintro e wn ⟨v5, rfl, ⟨A5, c5, rfl, hv5⟩, hb5⟩
                  have Hv := Lib.hid (far_new (L := [b10', b11]) hv5 (by decide) hsz (by simp; omega))
                  replace Hc := Lib.hid (below_after Hc.out hb5)
                  replace D10 := Lib.hid ((hb5.block _ hs10).trans D10.out)
                  replace hs10 := Nat.lt_of_lt_of_le hs10 hb5.size
                  replace D11 := Lib.hid ((hb5.block _ hs11).trans D11.out)
                  replace hs11 := Nat.lt_of_lt_of_le hs11 hb5.size
                  replace hsz := Nat.le_trans hsz hb5.size
                  obtain ⟨r10, q10, r6, q6, r4, q4, -⟩ := (HL1.out.after Hc.out).rules
                  dsimp only at r10 q10 r6 q6 r4 q4
                  clear hv5 hb5
                  go_wp2_with fail
                  refine ⟨trivial, ?_⟩
                  generalize wn = wc at *
                  refine tr_still ?_
                  simp only [pick, List.getElem?_toArray, List.getElem?_cons_succ, List.getElem?_cons_zero]
                  repeat still_step
                  refine wpStill_nil ?_
                  refine tr_loud ?_
                  simp only [pick, List.getElem?_toArray, List.getElem?_cons_succ, List.getElem?_cons_zero]
                  have d0 : wc.cell? ⟨b10', 0, none⟩ = some (.int .i64 0) := cell_of_row wc _ 0 _ _ _ D10.out
                  have d1 : wc.cell? ⟨b10', 1, none⟩ = some (.slice none 0 0) := cell_of_row wc _ 1 _ _ _ D10.out
                  have d2 : wc.frozen? ⟨b10', 0, none⟩ = false := by simp [World.frozen?, D10.out]
                  have d3 : wc.frozen? ⟨b10', 1, none⟩ = false := by simp [World.frozen?, D10.out]
                  go_wp2_with fail
                  obtain ⟨wn, hwn, n1, n2, n3, n4⟩ := two_set D10.out Hc.out ho10 (.int .i64 (allocH ⟨m, os⟩ (1 + p3)).most) (.slice A5 (allocH ⟨m, os⟩ (1 + p3)).objs.length c5)
                  rw [hwn]
                  replace Hv := Lib.hid (far_keep Hv.out (by decide) (b := b10') (by simp) n3)
                  replace D10 := Lib.hid n2
                  replace hs10 : b10' < wn.heap.size := by rw [n1]; exact hs10
                  replace D11 := Lib.hid ((n3 b11 (by omega)).trans D11.out)
                  replace hs11 : b11 < wn.heap.size := by rw [n1]; exact hs11
                  replace Hc := Lib.hid n4
                  replace hsz : W0.heap.size ≤ wn.heap.size := by rw [n1]; exact hsz
                  obtain ⟨r10, q10, r6, q6, r4, q4, -⟩ := (HL1.out.after Hc.out).rules
                  dsimp only at r10 q10 r6 q6 r4 q4
                  clear d0 d1 d2 d3 hwn n1 n2 n3 n4
                  refine ⟨?_, ?_⟩
                  · simp only [Again, pick, List.getElem?_toArray]
                    refine ⟨?_, ?_, trivial⟩
                    all_goals (still_step; exact wpStill_nil rfl)
                  generalize wn = wc at *
                  refine tr_loud ?_
                  simp only [pick, List.getElem?_toArray, List.getElem?_cons_succ, List.getElem?_cons_zero]
                  have d0 : wc.cell? ⟨b11, 0, none⟩ = some (.int .i64 0) := cell_of_row wc _ 0 _ _ _ D11.out
                  have d1 : wc.cell? ⟨b11, 1, none⟩ = some (.int .i64 0) := cell_of_row wc _ 1 _ _ _ D11.out
                  have d2 : wc.frozen? ⟨b11, 0, none⟩ = false := by simp [World.frozen?, D11.out]
                  have d3 : wc.frozen? ⟨b11, 1, none⟩ = false := by simp [World.frozen?, D11.out]
                  go_wp2_with fail
                  obtain ⟨wn, hwn, n1, n2, n3, n4⟩ := two_set D11.out Hc.out ho11 (.int .i64 (allocV ⟨m, os⟩ (1 + p3)).k) (.int .i64 (allocV ⟨m, os⟩ (1 + p3)).n)
                  rw [hwn]
                  replace Hv := Lib.hid (far_keep Hv.out (by decide) (b := b11) (by simp) n3)
                  replace D10 := Lib.hid ((n3 b10' (by omega)).trans D10.out)
                  replace D11 := Lib.hid n2
                  replace Hc := Lib.hid n4
                  clear d0 d1 d2 d3 hwn n1 n2 n3 n4
                  refine ⟨?_, ?_⟩
                  · simp only [Again, pick, List.getElem?_toArray]
                    refine ⟨?_, trivial⟩
                    all_goals (still_step; exact wpStill_nil rfl)
                  generalize wn = wc at *
                  refine tr_still ?_
                  simp only [pick, List.getElem?_toArray, List.getElem?_cons_succ, List.getElem?_cons_zero]
                  repeat still_step
                  refine wpStill_nil ?_
                  refine tr_done ?_
                  refine ⟨b10', b11, A5, c5, Locs.cons D11.out (Locs.cons D10.out Locs.nil), far_all Hv.out (by decide), Hc.out, ho10, ho11, ?_⟩
                  repeat (apply Exists.intro)
                  simp only [Act.put, List.setIfInBounds_toArray, List.set_cons_succ, List.set_cons_zero]
                  rfl
          · intro a w3 hR
            obtain ⟨b11, b12, A5, c5, hL5, hv5, hb5, j5, j6, g46, g47, g48, g49, g50, g51, g45, g52, g53, g54, rfl⟩ := hR
            simp only [Act.put, List.setIfInBounds_toArray, List.set_cons_succ, List.set_cons_zero]
            have hB3 := below_after hB0 hb5
            have hLx := HL1.out.after hb5
            have Hall2 := Hall1
            have Hall3 := Lib.hid (own_below Hall1.out hb5)
            have z3 := hb5.size
            by_cases he : allocE ⟨m, os⟩ (1 + p3) = 0
            · have eH : allocH ⟨m, os⟩ (1 + p3) = ⟨m, os ++ [zeroOb (1 + p3).toNat]⟩ := if_pos he
              have eV : allocV ⟨m, os⟩ (1 + p3) = ⟨2, os.length⟩ := if_pos he
              have hg2 := Hgood.out.more he
              rw [eH] at hv5 hL5
              rw [eV] at hL5
              rw [he]
              dsimp only at hv5 hL5
              obtain ⟨nos, hnos⟩ : ∃ x, x = os ++ [zeroOb (1 + p3).toNat] := ⟨_, rfl⟩
              have hnl : nos.length = os.length + 1 := by rw [hnos]; simp
              rw [← hnos] at hv5 hL5 hg2
              rw [hnl] at hv5 hL5
              have Hg2 := Lib.hid hg2
              have HL3 := Lib.hid hL5
              have Hv3 := Lib.hid hv5
              have HLx := Lib.hid hLx
              obtain ⟨s12, t12, s11, t11, -⟩ := hL5.rules
              obtain ⟨r10, q10, r6, q6, r4, q4, -⟩ := hLx.rules
              dsimp only at s12 t12 s11 t11 r10 q10 r6 q6 r4 q4
              clear hg2 hL5 hv5 hLx eH eV he hnos Hos1 Hall1 Hgood
              have HLy := Lib.hid ((HLx.out.set2 1 (.int .i64 m) (.slice A5 (os.length + 1) c5) rfl rfl (by simp <;> omega)).alloc (.cells #[.int .i64 2, .int .i64 (os.length : Int)] 30))
              have hk4 : ∀ b, b < w3.heap.size → b ≠ b6 → (((w3.setCell ⟨b6, 0, none⟩ (.int .i64 m)).setCell ⟨b6, 1, none⟩ (.slice A5 (os.length + 1) c5)).alloc (.cells #[.int .i64 2, .int .i64 (os.length : Int)] 30)).heap[b]? = w3.heap[b]? := fun b hb' hne =>
                (Below.heap_alloc _ _ _ (by simpa using hb')).trans ((Below.heap_setCell _ _ _ _ hne).trans (Below.heap_setCell _ _ _ _ hne))
              have hown4 : (((w3.setCell ⟨b6, 0, none⟩ (.int .i64 m)).setCell ⟨b6, 1, none⟩ (.slice A5 (os.length + 1) c5)).alloc (.cells #[.int .i64 2, .int .i64 (os.length : Int)] 30)).ownsRow (b6 + 1) 30 2 (.slice B os.length d) os.length (rc os.length).flatten :=
                own_keep Hall3.out (Nat.le_refl _) (fun b hb' => hk4 b (own_lt Hall3.out hb').1 (by have := (own_lt Hall3.out hb').2; omega))
              have hB4 : Below w.heap.size w (((w3.setCell ⟨b6, 0, none⟩ (.int .i64 m)).setCell ⟨b6, 1, none⟩ (.slice A5 (os.length + 1) c5)).alloc (.cells #[.int .i64 2, .int .i64 (os.length : Int)] 30)) := (below_set2 hB3 (by omega)).alloc (by simp; omega) _
              have hv4 : RdSl obE (((w3.setCell ⟨b6, 0, none⟩ (.int .i64 m)).setCell ⟨b6, 1, none⟩ (.slice A5 (os.length + 1) c5)).alloc (.cells #[.int .i64 2, .int .i64 (os.length : Int)] 30)) (fun b => W0.heap.size ≤ b ∧ b < w3.heap.size) (.slice A5 (os.length + 1) c5) nos :=
                Hv3.out.keep (by decide) (fun b hb' hS => ⟨⟨hS, hb'⟩, hk4 b hb' (by have h : W0.heap.size ≤ b := hS; omega)⟩)
              have hz4 : (((w3.setCell ⟨b6, 0, none⟩ (.int .i64 m)).setCell ⟨b6, 1, none⟩ (.slice A5 (os.length + 1) c5)).alloc (.cells #[.int .i64 2, .int .i64 (os.length : Int)] 30)).heap.size = w3.heap.size + 1 := by simp
              have Hown4 := Lib.hid hown4
              have Hv4 := Lib.hid hv4
              have hgl : ∀ g, (Value.slice B os.length d).ownBlock = some g → g < W0.heap.size := fun g hg => (own_lt Hall2.out hg).1
              clear hown4 hv4 hk4
              go_wp2_with (at_builtin; go_loud (refine wpList_append_own_at _ rfl (.tmp 58) (.tmp 60) _ rfl (b6 + 1) 30 i0 _ 2 16 Try.underlying26 hi0 hz0 hz1 hz2 rfl (by omega) _ os.length (rc os.length).flatten rfl Hown4.out ⟨w3.heap.size, 0, none⟩ 1 1 [.int .i64 2, .int .i64 (os.length : Int)] rfl rfl (World.news_of_block (cs := #[.int .i64 2, .int .i64 (os.length : Int)]) (t := 30) (fr := (0, 0)) (blk_at (by simp))) (by simp [Value.oneCell']) (by unfold maxLen; omega) (by omega) (by simp; omega) ?next))
              case next =>
                intro v5 w5 hown5 hg5 _ hat5
                obtain ⟨A6, c6, rfl⟩ := own_form hown5
                have hz5 := hg5.size
                have hL6 := HLy.out.grown hg5 (fun e he' e' => by
                  have h1 := (own_lt Hown4.out e').2
                  have h2 := hgb _ e'
                  simp at he'
                  rcases he' with rfl | rfl | rfl <;> simp at h1 h2 <;> omega)
                have hB5 : Below w.heap.size w w5 := hB4.grown hg5 (by omega) (fun g hg => by have := (own_lt Hown4.out hg).2; omega)
                have hv5 : RdSl obE w5 (fun b => w.heap.size + 1 ≤ b ∧ (Value.slice A6 (os.length + 1) c6).ownBlock ≠ some b) (.slice A5 (os.length + 1) c5) nos := by
                  refine Hv4.out.keep (by decide) (fun b hb' hS => ?_)
                  obtain ⟨h1, h2⟩ := hS
                  have hne : (Value.slice B os.length d).ownBlock ≠ some b := fun e => by have := hgl b e; omega
                  refine ⟨⟨by omega, fun e => ?_⟩, hg5.block b hb' (fun e => hne e.symm)⟩
                  rcases hat5 with h | h
                  · exact hne (h ▸ e)
                  · rw [h] at e; injection e with e; omega
                have HL6 := Lib.hid hL6
                have Hown5 := Lib.hid hown5
                have Hv5 := Lib.hid hv5
                clear hL6 hown5 hv5 hg5 hat5 s12 t12 s11 t11 r10 q10 r6 q6 r4 q4
                go_wp2_with fail
                go_roundw
                case rel =>
                  refine ⟨k + 1, nos, A5, c5, A6, c6, by omega, by go_num, by rw [hnl], Hg2.out, ?_, by rw [hnl]; exact Hv5.out, ?_, hB5, by omega⟩
                  · rw [hnl]
                    exact HL6.out.tail
                  · rw [hnl, rc_succ]
                    exact Hown5.out
                case measure => simp [intOf]; omega
            · have hne : (allocE ⟨m, os⟩ (1 + p3) == 0) = false := by simpa using he
              have HLx := Lib.hid hLx
              have Hv3 := Lib.hid (Hos1.out.below (by decide) hb5)
              clear hLx hL5 hv5 he Hos1 Hall1 HL1
              generalize allocE ⟨m, os⟩ (1 + p3) = ae at *
              go_wp2_with fail
              go_roundw
              case rel => exact ⟨k + 1, os, A, c, B, d, by omega, by go_num, rfl, Hgood.out, HLx.out.tail, Hv3.out, Hall3.out, hB3, by omega⟩
              case measure => simp [intOf]; omega
      · obtain ⟨hA1, hA2⟩ : p1 ≠ 0 ∧ os.length ≠ 0 := by omega
        have hd : decide (p1 = 0 ∨ os.length = 0) = false := by simp [hA1, hA2]
        rw [hd]
        obtain ⟨g, rfl, hg⟩ := own_pos Hall1.out (by omega)
        have hgb' := hgb g rfl
        obtain ⟨p5, hp5⟩ : ∃ p, p = pickN xb os.length := ⟨_, rfl⟩
        have hp5' := pickN_lt xb os.length (by omega)
        have G5 := Lib.hid (fun W => picked_any xb os.length f2.1 f2.2 (by omega) (by omega) W)
        rw [← hp5] at G5 hp5'
        obtain ⟨p6, hp6⟩ : ∃ p, p = pickN xc 3 := ⟨_, rfl⟩
        have G6 := Lib.hid (fun W => picked_any xc 3 f3.1 f3.2 (by omega) (by omega) W)
        rw [← hp6] at G6
        obtain ⟨p7, hp7⟩ : ∃ p, p = pickN xc 100 := ⟨_, rfl⟩
        have G7 := Lib.hid (fun W => picked_any xc 100 f3.1 f3.2 (by omega) (by omega) W)
        rw [← hp7] at G7
        obtain ⟨p8, hp8⟩ : ∃ p, p = pickN xa os.length := ⟨_, rfl⟩
        have hp8' := pickN_lt xa os.length (by omega)
        have G8 := Lib.hid (fun W => picked_any xa os.length f1.1 f1.2 (by omega) (by omega) W)
        rw [← hp8] at G8 hp8'
        obtain ⟨p9, hp9⟩ : ∃ p, p = pickN xc 4 := ⟨_, rfl⟩
        have G9 := Lib.hid (fun W => picked_any xc 4 f3.1 f3.2 (by omega) (by omega) W)
        rw [← hp9] at G9
        clear hp5 hp6 hp7 hp8 hp9 G2
        obtain ⟨i5, rfl⟩ := Int.eq_ofNat_of_zero_le hp5'.1
        obtain ⟨i8, rfl⟩ := Int.eq_ofNat_of_zero_le hp8'.1
        obtain ⟨j50, j51⟩ := hp5'
        obtain ⟨j80, j81⟩ := hp8'
        obtain ⟨e50, e51⟩ := rc_at (n := os.length) (i := i5) (by omega)
        obtain ⟨e80, e81⟩ := rc_at (n := os.length) (i := i8) (by omega)
        have c50 := own_cell Hall1.out e50
        have c51 := own_cell Hall1.out e51
        have E80 := Lib.hid e80
        have E81 := Lib.hid e81
        clear e50 e51 e80 e81 hA1 hA2 hA hd
        have HL2 := Lib.hid ((HL1.out.alloc (.cells #[.int .i64 2, .int .i64 (i5 : Int)] 30)).cons (e := (W0.heap.size, #[.int .i64 2, .int .i64 (i5 : Int)], 30)) (blk_at rfl))
        have hbr : Below W0.heap.size W0 (W0.alloc (.cells #[.int .i64 2, .int .i64 (i5 : Int)] 30)) := (Below.refl _ _).alloc (Nat.le_refl _) _
        have Hosx := Lib.hid (Hos1.out.keep (S' := fun b => w.heap.size + 1 ≤ b ∧ (Value.slice (some ⟨g, 0, none⟩) os.length d).ownBlock ≠ some b ∧ b ≠ W0.heap.size) (by decide) (fun b hb' hS => ⟨⟨hS.1, hS.2, by omega⟩, hbr.block b hb'⟩))
        have Hos2 := Lib.hid (Hos1.out.below (by decide) hbr)
        have Hall2 := Lib.hid (own_below Hall1.out hbr)
        have hB2 := below_after hB0 hbr
        have hz14 : W0.heap.size + 1 ≤ (W0.alloc (.cells #[.int .i64 2, .int .i64 (i5 : Int)] 30)).heap.size := by simp
        go_wp2_with fail
        refine (G5.out _).mono ?_
        rintro e w' ⟨rfl, rfl⟩
        go_upto_region 13 with fail
        generalize W0.alloc (.cells #[.int .i64 2, .int .i64 (i5 : Int)] 30) = W1 at *
        clear hbr Hos1 Hall1 hB0 HL1 c50 c51 r10 q10 r6 q6 r4 q4
        generalize W0.heap.size = b14 at *
        clear W0
        obtain ⟨r14, q14, r10, q10, r6, q6, r4, q4, -⟩ := HL2.out.rules
        dsimp only at r14 q14 r10 q10 r6 q6 r4 q4
        have hx : ∃ (x : V) (W2 : World), (p6 = 0 ∧ x = ⟨1, p7⟩ ∧ W2 = (W1.setCell ⟨b14, 0, none⟩ (.int .i64 x.k)).setCell ⟨b14, 1, none⟩ (.int .i64 x.n) ∨ p6 ≠ 0 ∧ x = ⟨2, (i5 : Int)⟩ ∧ W2 = W1) := by
          by_cases h6 : p6 = 0
          · exact ⟨_, _, .inl ⟨h6, rfl, rfl⟩⟩
          · exact ⟨_, _, .inr ⟨h6, rfl, rfl⟩⟩
        obtain ⟨x, W2, hx⟩ := hx
        have hW : Locs W2 [(b14, #[.int .i64 x.k, .int .i64 x.n], 30), (b10, #[.int .i64 xk, .int .i64 xa, .int .i64 xb, .int .i64 xc], 54), (b6, #[.int .i64 m, .slice A os.length c], 25), (w.heap.size, #[.int .i64 0, .slice none 0 0], 25)] ∧
            RdSl obE W2 (fun b => w.heap.size + 1 ≤ b ∧ (Value.slice (some ⟨g, 0, none⟩) os.length d).ownBlock ≠ some b ∧ b ≠ b14) (.slice A os.length c) os ∧ W2.ownsRow (b6 + 1) 30 2 (.slice (some ⟨g, 0, none⟩) os.length d) os.length (rc os.length).flatten ∧ Below w.heap.size w W2 ∧ b14 + 1 ≤ W2.heap.size := by
          have hos' : RdSl obE W1 (fun b => w.heap.size + 1 ≤ b ∧ (Value.slice (some ⟨g, 0, none⟩) os.length d).ownBlock ≠ some b ∧ b ≠ b14) (.slice A os.length c) os := Hosx.out
          rcases hx with ⟨_, _, rfl⟩ | ⟨_, rfl, rfl⟩
          · have hk : ∀ b, b ≠ b14 → ((W1.setCell ⟨b14, 0, none⟩ (.int .i64 x.k)).setCell ⟨b14, 1, none⟩ (.int .i64 x.n)).heap[b]? = W1.heap[b]? := fun b hb' => (Below.heap_setCell _ _ _ _ hb').trans (Below.heap_setCell _ _ _ _ hb')
            refine ⟨HL2.out.set2 0 (.int .i64 x.k) (.int .i64 x.n) rfl rfl (by simp <;> omega), hos'.keep (by decide) (fun b _ hS => ⟨hS, hk b hS.2.2⟩), own_keep Hall2.out (Nat.le_refl _) (fun b hb' => hk b (by simp [Value.ownBlock] at hb'; omega)), below_set2 hB2 (by omega), by simpa using hz14⟩
          · exact ⟨HL2.out, hos', Hall2.out, hB2, hz14⟩
        obtain ⟨hW1, hW2, hW3, hB3, hz3⟩ := hW
        have HL3 := Lib.hid hW1
        have Hos3 := Lib.hid hW2
        have Hall3 := Lib.hid hW3
        clear hW1 hW2 hW3
        go_wp2_with fail
        refine (G6.out _).mono ?_
        rintro e w' ⟨rfl, rfl⟩
        go_upto_if 73 with fail
        go_cut [] from 74 to 77 (fun wx => wx = W2)
        case first =>
          rcases hx with ⟨rfl, h1, h2⟩ | ⟨h0, h1, h2⟩
          · rw [h1] at h2
            dsimp only at h2
            clear h1
            go_wp2_with fail
            refine (G7.out _).mono ?_
            rintro e w' ⟨rfl, rfl⟩
            go_wp2_with fail
            go_meet
            exact h2.symm
          · have hb0 : (p6 == 0) = false := by simpa using h0
            clear h0 h1
            go_wp2_with fail
            go_meet
            exact h2.symm
        case rest =>
        rw [hcut]
        focus
          clear hx r14 q14 r10 q10 r6 q6 r4 q4 HL2 Hos2 Hall2 hB2 hz14 G5 G6 G7
          go_wp2_with fail
          refine wp_region_tree (.still [0, 1, 2, 3, 4, 5, 9, 10, 12] (.alt (.loud 6 [0, 1, 9, 10, 12] (.still [7, 8] (.alt (.loud 11 [0, 1, 12, 7, 8] (.alt (.loud 13 [] (.still [14, 15, 16] (.loud 17 [0, 1, 2, 3, 4, 5, 9, 10, 12, 7, 8, 14, 15, 16] (.loud 18 [16] (.still [19] .done))))) (.loud 17 [0, 1, 2, 3, 4, 5, 9, 10, 12, 7, 8] (.loud 13 [] (.still [14, 15, 16] (.loud 18 [16] (.still [19] .done))))))) (.loud 17 [0, 1, 2, 3, 4, 5, 9, 10, 12, 7, 8] (.loud 11 [0, 1, 12, 7, 8] (.loud 13 [] (.still [14, 15, 16] (.loud 18 [16] (.still [19] .done))))))))) (.loud 17 [0, 1, 2, 3, 4, 5, 9, 10, 12] (.loud 6 [0, 1, 9, 10, 12] (.still [7, 8] (.loud 11 [0, 1, 12, 7, 8] (.loud 13 [] (.still [14, 15, 16] (.loud 18 [16] (.still [19] .done)))))))))) (fun a a' w' => ∃ (b15 : Nat) (A5 : Option Addr) (c5 : Nat), Locs w' [(b15, #[.int .i64 (setH ⟨m, os⟩ ⟨2, (i8 : Int)⟩ p9 x).most, .slice A5 (setH ⟨m, os⟩ ⟨2, (i8 : Int)⟩ p9 x).objs.length c5], 25)] ∧ RdSl obE w' (fun b => W2.heap.size ≤ b) (.slice A5 (setH ⟨m, os⟩ ⟨2, (i8 : Int)⟩ p9 x).objs.length c5) (setH ⟨m, os⟩ ⟨2, (i8 : Int)⟩ p9 x).objs ∧ Below W2.heap.size W2 w' ∧ W2.heap.size ≤ b15 ∧ ∃ (g79 : Value) (g80 : Value) (g81 : Value) (g82 : Value) (g83 : Value) (g84 : Value) (g85 : Value) (g86 : Value) (g87 : Value) (g88 : Value) (g89 : Value) (g90 : Value) (g91 : Value) (g92 : Value) (g78 : Value) (g93 : Value) (g94 : Value), a' = (((((((((((((((((((a.put (some 79) g79).put (some 80) g80).put (some 81) g81).put (some 82) g82).put (some 83) g83).put (some 84) g84).put (some 85) g85).put (some 86) g86).put (some 87) g87).put (some 88) g88).put (some 89) g89).put (some 90) g90).put (some 91) g91).put (some 92) g92).put (some 78) g78).put (some 93) g93).put (some 94) g94).put (some 15) (.pointer (some ⟨b15, 0, none⟩))).put (some 16) (.int .i64 (setE ⟨m, os⟩ ⟨2, (i8 : Int)⟩ p9 x)))) (by kernel_rfl) (by kernel_rfl) ?_ ?_
          · have Hc := Lib.hid (show Below W2.heap.size W2 W2.drew from (Below.refl _ _).drew)
            have hsz : W2.heap.size ≤ W2.drew.heap.size := Hc.out.size
            obtain ⟨r14, q14, r10, q10, r6, q6, r4, q4, -⟩ := (HL3.out.after Hc.out).rules
            dsimp only at r14 q14 r10 q10 r6 q6 r4 q4
            have c80 := own_cell (own_below Hall3.out Hc.out) E80.out
            have c81 := own_cell (own_below Hall3.out Hc.out) E81.out
            generalize W2.drew = wc at *
            refine tr_still ?_
            simp only [pick, List.getElem?_toArray, List.getElem?_cons_succ, List.getElem?_cons_zero]
            repeat still_step
            refine wpStill_nil ?_
            refine tr_alt ?_ ?_
            · refine tr_loud ?_
              simp only [pick, List.getElem?_toArray, List.getElem?_cons_succ, List.getElem?_cons_zero]
              go_wp2_with fail
              refine (G8.out _).mono ?_
              rintro e w' ⟨rfl, rfl⟩
              go_wp2_with fail
              refine ⟨?_, ?_⟩
              · simp only [Again, pick, List.getElem?_toArray]
                refine ⟨?_, ?_, ?_, ?_, ?_, trivial⟩
                all_goals (still_step; exact wpStill_nil rfl)
              refine tr_still ?_
              simp only [pick, List.getElem?_toArray, List.getElem?_cons_succ, List.getElem?_cons_zero]
              repeat still_step
              refine wpStill_nil ?_
              refine tr_alt ?_ ?_
              · refine tr_loud ?_
                simp only [pick, List.getElem?_toArray, List.getElem?_cons_succ, List.getElem?_cons_zero]
                go_wp2_with fail
                refine (G9.out _).mono ?_
                rintro e w' ⟨rfl, rfl⟩
                go_wp2_with fail
                refine ⟨?_, ?_⟩
                · simp only [Again, pick, List.getElem?_toArray, List.getElem?_cons_succ, List.getElem?_cons_zero]
                  refine ⟨?_, ?_, ?_, ?_, ?_, trivial⟩
                  all_goals (still_step; exact wpStill_nil rfl)
                refine tr_alt ?_ ?_
                · refine tr_loud ?_
                  simp only [pick, List.getElem?_toArray, List.getElem?_cons_succ, List.getElem?_cons_zero]
                  go_wp2_with fail
                  refine (set_any m _ A c os ⟨2, (i8 : Int)⟩ p9 x _ (Hos3.out.below (by decide) Hc.out)).mono ?_
                  rintro e wn ⟨v5, rfl, ⟨A5, c5, rfl, hv5⟩, hb5⟩
                  have Hv := Lib.hid (far_new (L := []) hv5 (by decide) hsz (by simp))
                  replace Hc := Lib.hid (below_after Hc.out hb5)
                  replace hsz := Nat.le_trans hsz hb5.size
                  obtain ⟨r14, q14, r10, q10, r6, q6, r4, q4, -⟩ := (HL3.out.after Hc.out).rules
                  dsimp only at r14 q14 r10 q10 r6 q6 r4 q4
                  replace c80 := own_cell (own_below Hall3.out Hc.out) E80.out
                  replace c81 := own_cell (own_below Hall3.out Hc.out) E81.out
                  clear hv5 hb5
                  go_wp2_with fail
                  refine ⟨trivial, ?_⟩
                  generalize wn = wc at *
                  refine tr_still ?_
                  simp only [pick, List.getElem?_toArray, List.getElem?_cons_succ, List.getElem?_cons_zero]
                  repeat still_step
                  refine wpStill_nil ?_
                  refine tr_loud ?_
                  simp only [pick, List.getElem?_toArray, List.getElem?_cons_succ, List.getElem?_cons_zero]
                  go_wp2_with fail
                  have D15 := Lib.hid (show (wc.alloc (.cells #[.int .i64 0, .slice none 0 0] 25)).heap[wc.heap.size]? = some (.cells #[.int .i64 0, .slice none 0 0] 25 (0, 0)) from blk_at rfl)
                  have hs15 : wc.heap.size < (wc.alloc (.cells #[.int .i64 0, .slice none 0 0] 25)).heap.size := by simp
                  have hbn : Below wc.heap.size wc (wc.alloc (.cells #[.int .i64 0, .slice none 0 0] 25)) := (Below.refl _ _).alloc (Nat.le_refl _) _
                  replace Hv := Lib.hid (far_cons Hv.out (by decide) hbn)
                  have ho15 : W2.heap.size ≤ wc.heap.size := hsz
                  replace Hc := Lib.hid (below_after Hc.out hbn)
                  replace hsz := Nat.le_trans hsz hbn.size
                  obtain ⟨r14, q14, r10, q10, r6, q6, r4, q4, -⟩ := (HL3.out.after Hc.out).rules
                  dsimp only at r14 q14 r10 q10 r6 q6 r4 q4
                  replace c80 := own_cell (own_below Hall3.out Hc.out) E80.out
                  replace c81 := own_cell (own_below Hall3.out Hc.out) E81.out
                  clear hbn
                  generalize wc.heap.size = b15 at *
                  generalize wc.alloc (.cells #[.int .i64 0, .slice none 0 0] 25) = wc at *
                  refine ⟨?_, ?_⟩
                  · simp only [Again, pick, List.getElem?_toArray]
                    refine ⟨?_, ?_, ?_, ?_, ?_, ?_, ?_, ?_, ?_, ?_, ?_, ?_, ?_, ?_, trivial⟩
                    all_goals (still_step; exact wpStill_nil rfl)
                  refine tr_loud ?_
                  simp only [pick, List.getElem?_toArray, List.getElem?_cons_succ, List.getElem?_cons_zero]
                  have d0 : wc.cell? ⟨b15, 0, none⟩ = some (.int .i64 0) := cell_of_row wc _ 0 _ _ _ D15.out
                  have d1 : wc.cell? ⟨b15, 1, none⟩ = some (.slice none 0 0) := cell_of_row wc _ 1 _ _ _ D15.out
                  have d2 : wc.frozen? ⟨b15, 0, none⟩ = false := by simp [World.frozen?, D15.out]
                  have d3 : wc.frozen? ⟨b15, 1, none⟩ = false := by simp [World.frozen?, D15.out]
                  go_wp2_with fail
                  obtain ⟨wn, hwn, n1, n2, n3, n4⟩ := two_set D15.out Hc.out ho15 (.int .i64 (setH ⟨m, os⟩ ⟨2, (i8 : Int)⟩ p9 x).most) (.slice A5 (setH ⟨m, os⟩ ⟨2, (i8 : Int)⟩ p9 x).objs.length c5)
                  rw [hwn]
                  replace Hv := Lib.hid (far_keep Hv.out (by decide) (b := b15) (by simp) n3)
                  replace D15 := Lib.hid n2
                  replace Hc := Lib.hid n4
                  clear d0 d1 d2 d3 hwn n1 n2 n3 n4
                  refine ⟨?_, ?_⟩
                  · simp only [Again, pick, List.getElem?_toArray]
                    refine ⟨?_, trivial⟩
                    all_goals (still_step; exact wpStill_nil rfl)
                  generalize wn = wc at *
                  refine tr_still ?_
                  simp only [pick, List.getElem?_toArray, List.getElem?_cons_succ, List.getElem?_cons_zero]
                  repeat still_step
                  refine wpStill_nil ?_
                  refine tr_done ?_
                  refine ⟨b15, A5, c5, Locs.cons D15.out Locs.nil, far_all Hv.out (by decide), Hc.out, ho15, ?_⟩
                  repeat (apply Exists.intro)
                  simp only [Act.put, List.setIfInBounds_toArray, List.set_cons_succ, List.set_cons_zero]
                  rfl
                · refine tr_loud ?_
                  simp only [pick, List.getElem?_toArray, List.getElem?_cons_succ, List.getElem?_cons_zero]
                  go_wp2_with fail
                  have D15 := Lib.hid (show (wc.alloc (.cells #[.int .i64 0, .slice none 0 0] 25)).heap[wc.heap.size]? = some (.cells #[.int .i64 0, .slice none 0 0] 25 (0, 0)) from blk_at rfl)
                  have hs15 : wc.heap.size < (wc.alloc (.cells #[.int .i64 0, .slice none 0 0] 25)).heap.size := by simp
                  have hbn : Below wc.heap.size wc (wc.alloc (.cells #[.int .i64 0, .slice none 0 0] 25)) := (Below.refl _ _).alloc (Nat.le_refl _) _
                  have ho15 : W2.heap.size ≤ wc.heap.size := hsz
                  replace Hc := Lib.hid (below_after Hc.out hbn)
                  replace hsz := Nat.le_trans hsz hbn.size
                  obtain ⟨r14, q14, r10, q10, r6, q6, r4, q4, -⟩ := (HL3.out.after Hc.out).rules
                  dsimp only at r14 q14 r10 q10 r6 q6 r4 q4
                  replace c80 := own_cell (own_below Hall3.out Hc.out) E80.out
                  replace c81 := own_cell (own_below Hall3.out Hc.out) E81.out
                  clear hbn
                  generalize wc.heap.size = b15 at *
                  generalize wc.alloc (.cells #[.int .i64 0, .slice none 0 0] 25) = wc at *
                  refine ⟨?_, ?_⟩
                  · simp only [Again, pick, List.getElem?_toArray]
                    refine ⟨?_, ?_, ?_, ?_, ?_, ?_, ?_, ?_, ?_, ?_, ?_, trivial⟩
                    all_goals (still_step; exact wpStill_nil rfl)
                  refine tr_loud ?_
                  simp only [pick, List.getElem?_toArray, List.getElem?_cons_succ, List.getElem?_cons_zero]
                  go_wp2_with fail
                  refine (set_any m _ A c os ⟨2, (i8 : Int)⟩ p9 x _ (Hos3.out.below (by decide) Hc.out)).mono ?_
                  rintro e wn ⟨v5, rfl, ⟨A5, c5, rfl, hv5⟩, hb5⟩
                  have Hv := Lib.hid (far_new (L := [b15]) hv5 (by decide) hsz (by simp; omega))
                  replace Hc := Lib.hid (below_after Hc.out hb5)
                  replace D15 := Lib.hid ((hb5.block _ hs15).trans D15.out)
                  replace hs15 := Nat.lt_of_lt_of_le hs15 hb5.size
                  replace hsz := Nat.le_trans hsz hb5.size
                  obtain ⟨r14, q14, r10, q10, r6, q6, r4, q4, -⟩ := (HL3.out.after Hc.out).rules
                  dsimp only at r14 q14 r10 q10 r6 q6 r4 q4
                  replace c80 := own_cell (own_below Hall3.out Hc.out) E80.out
                  replace c81 := own_cell (own_below Hall3.out Hc.out) E81.out
                  clear hv5 hb5
                  go_wp2_with fail
                  refine ⟨trivial, ?_⟩
                  generalize wn = wc at *
                  refine tr_still ?_
                  simp only [pick, List.getElem?_toArray, List.getElem?_cons_succ, List.getElem?_cons_zero]
                  repeat still_step
                  refine wpStill_nil ?_
                  refine tr_loud ?_
                  simp only [pick, List.getElem?_toArray, List.getElem?_cons_succ, List.getElem?_cons_zero]
                  have d0 : wc.cell? ⟨b15, 0, none⟩ = some (.int .i64 0) := cell_of_row wc _ 0 _ _ _ D15.out
                  have d1 : wc.cell? ⟨b15, 1, none⟩ = some (.slice none 0 0) := cell_of_row wc _ 1 _ _ _ D15.out
                  have d2 : wc.frozen? ⟨b15, 0, none⟩ = false := by simp [World.frozen?, D15.out]
                  have d3 : wc.frozen? ⟨b15, 1, none⟩ = false := by simp [World.frozen?, D15.out]
                  go_wp2_with fail
                  obtain ⟨wn, hwn, n1, n2, n3, n4⟩ := two_set D15.out Hc.out ho15 (.int .i64 (setH ⟨m, os⟩ ⟨2, (i8 : Int)⟩ p9 x).most) (.slice A5 (setH ⟨m, os⟩ ⟨2, (i8 : Int)⟩ p9 x).objs.length c5)
                  rw [hwn]
                  replace Hv := Lib.hid (far_keep Hv.out (by decide) (b := b15) (by simp) n3)
                  replace D15 := Lib.hid n2
                  replace Hc := Lib.hid n4
                  clear d0 d1 d2 d3 hwn n1 n2 n3 n4
                  refine ⟨?_, ?_⟩
                  · simp only [Again, pick, List.getElem?_toArray]
                    refine ⟨?_, trivial⟩
                    all_goals (still_step; exact wpStill_nil rfl)
                  generalize wn = wc at *
                  refine tr_still ?_
                  simp only [pick, List.getElem?_toArray, List.getElem?_cons_succ, List.getElem?_cons_zero]
                  repeat still_step
                  refine wpStill_nil ?_
                  refine tr_done ?_
                  refine ⟨b15, A5, c5, Locs.cons D15.out Locs.nil, far_all Hv.out (by decide), Hc.out, ho15, ?_⟩
                  repeat (apply Exists.intro)
                  simp only [Act.put, List.setIfInBounds_toArray, List.set_cons_succ, List.set_cons_zero]
                  rfl
              · refine tr_loud ?_
                simp only [pick, List.getElem?_toArray, List.getElem?_cons_succ, List.getElem?_cons_zero]
                go_wp2_with fail
                have D15 := Lib.hid (show (wc.alloc (.cells #[.int .i64 0, .slice none 0 0] 25)).heap[wc.heap.size]? = some (.cells #[.int .i64 0, .slice none 0 0] 25 (0, 0)) from blk_at rfl)
                have hs15 : wc.heap.size < (wc.alloc (.cells #[.int .i64 0, .slice none 0 0] 25)).heap.size := by simp
                have hbn : Below wc.heap.size wc (wc.alloc (.cells #[.int .i64 0, .slice none 0 0] 25)) := (Below.refl _ _).alloc (Nat.le_refl _) _
                have ho15 : W2.heap.size ≤ wc.heap.size := hsz
                replace Hc := Lib.hid (below_after Hc.out hbn)
                replace hsz := Nat.le_trans hsz hbn.size
                obtain ⟨r14, q14, r10, q10, r6, q6, r4, q4, -⟩ := (HL3.out.after Hc.out).rules
                dsimp only at r14 q14 r10 q10 r6 q6 r4 q4
                replace c80 := own_cell (own_below Hall3.out Hc.out) E80.out
                replace c81 := own_cell (own_below Hall3.out Hc.out) E81.out
                clear hbn
                generalize wc.heap.size = b15 at *
                generalize wc.alloc (.cells #[.int .i64 0, .slice none 0 0] 25) = wc at *
                refine ⟨?_, ?_⟩
                · simp only [Again, pick, List.getElem?_toArray, List.getElem?_cons_succ, List.getElem?_cons_zero]
                  refine ⟨?_, ?_, ?_, ?_, ?_, ?_, ?_, ?_, ?_, ?_, ?_, trivial⟩
                  all_goals (still_step; exact wpStill_nil rfl)
                refine tr_loud ?_
                simp only [pick, List.getElem?_toArray, List.getElem?_cons_succ, List.getElem?_cons_zero]
                go_wp2_with fail
                refine (G9.out _).mono ?_
                rintro e w' ⟨rfl, rfl⟩
                go_wp2_with fail
                refine ⟨?_, ?_⟩
                · simp only [Again, pick, List.getElem?_toArray, List.getElem?_cons_succ, List.getElem?_cons_zero]
                  refine ⟨?_, ?_, ?_, ?_, ?_, trivial⟩
                  all_goals (still_step; exact wpStill_nil rfl)
                refine tr_loud ?_
                simp only [pick, List.getElem?_toArray, List.getElem?_cons_succ, List.getElem?_cons_zero]
                go_wp2_with fail
                refine (set_any m _ A c os ⟨2, (i8 : Int)⟩ p9 x _ (Hos3.out.below (by decide) Hc.out)).mono ?_
                rintro e wn ⟨v5, rfl, ⟨A5, c5, rfl, hv5⟩, hb5⟩
                have Hv := Lib.hid (far_new (L := [b15]) hv5 (by decide) hsz (by simp; omega))
                replace Hc := Lib.hid (below_after Hc.out hb5)
                replace D15 := Lib.hid ((hb5.block _ hs15).trans D15.out)
                replace hs15 := Nat.lt_of_lt_of_le hs15 hb5.size
                replace hsz := Nat.le_trans hsz hb5.size
                obtain ⟨r14, q14, r10, q10, r6, q6, r4, q4, -⟩ := (HL3.out.after Hc.out).rules
                dsimp only at r14 q14 r10 q10 r6 q6 r4 q4
                replace c80 := own_cell (own_below Hall3.out Hc.out) E80.out
                replace c81 := own_cell (own_below Hall3.out Hc.out) E81.out
                clear hv5 hb5
                go_wp2_with fail
                refine ⟨trivial, ?_⟩
                generalize wn = wc at *
                refine tr_still ?_
                simp only [pick, List.getElem?_toArray, List.getElem?_cons_succ, List.getElem?_cons_zero]
                repeat still_step
                refine wpStill_nil ?_
                refine tr_loud ?_
                simp only [pick, List.getElem?_toArray, List.getElem?_cons_succ, List.getElem?_cons_zero]
                have d0 : wc.cell? ⟨b15, 0, none⟩ = some (.int .i64 0) := cell_of_row wc _ 0 _ _ _ D15.out
                have d1 : wc.cell? ⟨b15, 1, none⟩ = some (.slice none 0 0) := cell_of_row wc _ 1 _ _ _ D15.out
                have d2 : wc.frozen? ⟨b15, 0, none⟩ = false := by simp [World.frozen?, D15.out]
                have d3 : wc.frozen? ⟨b15, 1, none⟩ = false := by simp [World.frozen?, D15.out]
                go_wp2_with fail
                obtain ⟨wn, hwn, n1, n2, n3, n4⟩ := two_set D15.out Hc.out ho15 (.int .i64 (setH ⟨m, os⟩ ⟨2, (i8 : Int)⟩ p9 x).most) (.slice A5 (setH ⟨m, os⟩ ⟨2, (i8 : Int)⟩ p9 x).objs.length c5)
                rw [hwn]
                replace Hv := Lib.hid (far_keep Hv.out (by decide) (b := b15) (by simp) n3)
                replace D15 := Lib.hid n2
                replace Hc := Lib.hid n4
                clear d0 d1 d2 d3 hwn n1 n2 n3 n4
                refine ⟨?_, ?_⟩
                · simp only [Again, pick, List.getElem?_toArray, List.getElem?_cons_succ, List.getElem?_cons_zero]
                  refine ⟨?_, trivial⟩
                  all_goals (still_step; exact wpStill_nil rfl)
                generalize wn = wc at *
                refine tr_still ?_
                simp only [pick, List.getElem?_toArray, List.getElem?_cons_succ, List.getElem?_cons_zero]
                repeat still_step
                refine wpStill_nil ?_
                refine tr_done ?_
                refine ⟨b15, A5, c5, Locs.cons D15.out Locs.nil, far_all Hv.out (by decide), Hc.out, ho15, ?_⟩
                repeat (apply Exists.intro)
                simp only [Act.put, List.setIfInBounds_toArray, List.set_cons_succ, List.set_cons_zero]
                rfl
            · refine tr_loud ?_
              simp only [pick, List.getElem?_toArray, List.getElem?_cons_succ, List.getElem?_cons_zero]
              go_wp2_with fail
              have D15 := Lib.hid (show (wc.alloc (.cells #[.int .i64 0, .slice none 0 0] 25)).heap[wc.heap.size]? = some (.cells #[.int .i64 0, .slice none 0 0] 25 (0, 0)) from blk_at rfl)
              have hs15 : wc.heap.size < (wc.alloc (.cells #[.int .i64 0, .slice none 0 0] 25)).heap.size := by simp
              have hbn : Below wc.heap.size wc (wc.alloc (.cells #[.int .i64 0, .slice none 0 0] 25)) := (Below.refl _ _).alloc (Nat.le_refl _) _
              have ho15 : W2.heap.size ≤ wc.heap.size := hsz
              replace Hc := Lib.hid (below_after Hc.out hbn)
              replace hsz := Nat.le_trans hsz hbn.size
              obtain ⟨r14, q14, r10, q10, r6, q6, r4, q4, -⟩ := (HL3.out.after Hc.out).rules
              dsimp only at r14 q14 r10 q10 r6 q6 r4 q4
              replace c80 := own_cell (own_below Hall3.out Hc.out) E80.out
              replace c81 := own_cell (own_below Hall3.out Hc.out) E81.out
              clear hbn
              generalize wc.heap.size = b15 at *
              generalize wc.alloc (.cells #[.int .i64 0, .slice none 0 0] 25) = wc at *
              refine ⟨?_, ?_⟩
              · simp only [Again, pick, List.getElem?_toArray]
                refine ⟨?_, ?_, ?_, ?_, ?_, ?_, ?_, ?_, ?_, trivial⟩
                all_goals (still_step; exact wpStill_nil rfl)
              refine tr_loud ?_
              simp only [pick, List.getElem?_toArray, List.getElem?_cons_succ, List.getElem?_cons_zero]
              go_wp2_with fail
              refine (G8.out _).mono ?_
              rintro e w' ⟨rfl, rfl⟩
              go_wp2_with fail
              refine ⟨?_, ?_⟩
              · simp only [Again, pick, List.getElem?_toArray]
                refine ⟨?_, ?_, ?_, ?_, ?_, trivial⟩
                all_goals (still_step; exact wpStill_nil rfl)
              refine tr_still ?_
              simp only [pick, List.getElem?_toArray, List.getElem?_cons_succ, List.getElem?_cons_zero]
              repeat still_step
              refine wpStill_nil ?_
              refine tr_loud ?_
              simp only [pick, List.getElem?_toArray, List.getElem?_cons_succ, List.getElem?_cons_zero]
              go_wp2_with fail
              refine (G9.out _).mono ?_
              rintro e w' ⟨rfl, rfl⟩
              go_wp2_with fail
              refine ⟨?_, ?_⟩
              · simp only [Again, pick, List.getElem?_toArray]
                refine ⟨?_, ?_, ?_, ?_, ?_, trivial⟩
                all_goals (still_step; exact wpStill_nil rfl)
              refine tr_loud ?_
              simp only [pick, List.getElem?_toArray, List.getElem?_cons_succ, List.getElem?_cons_zero]
              go_wp2_with fail
              refine (set_any m _ A c os ⟨2, (i8 : Int)⟩ p9 x _ (Hos3.out.below (by decide) Hc.out)).mono ?_
              rintro e wn ⟨v5, rfl, ⟨A5, c5, rfl, hv5⟩, hb5⟩
              have Hv := Lib.hid (far_new (L := [b15]) hv5 (by decide) hsz (by simp; omega))
              replace Hc := Lib.hid (below_after Hc.out hb5)
              replace D15 := Lib.hid ((hb5.block _ hs15).trans D15.out)
              replace hs15 := Nat.lt_of_lt_of_le hs15 hb5.size
              replace hsz := Nat.le_trans hsz hb5.size
              obtain ⟨r14, q14, r10, q10, r6, q6, r4, q4, -⟩ := (HL3.out.after Hc.out).rules
              dsimp only at r14 q14 r10 q10 r6 q6 r4 q4
              replace c80 := own_cell (own_below Hall3.out Hc.out) E80.out
              replace c81 := own_cell (own_below Hall3.out Hc.out) E81.out
              clear hv5 hb5
              go_wp2_with fail
              refine ⟨trivial, ?_⟩
              generalize wn = wc at *
              refine tr_still ?_
              simp only [pick, List.getElem?_toArray, List.getElem?_cons_succ, List.getElem?_cons_zero]
              repeat still_step
              refine wpStill_nil ?_
              refine tr_loud ?_
              simp only [pick, List.getElem?_toArray, List.getElem?_cons_succ, List.getElem?_cons_zero]
              have d0 : wc.cell? ⟨b15, 0, none⟩ = some (.int .i64 0) := cell_of_row wc _ 0 _ _ _ D15.out
              have d1 : wc.cell? ⟨b15, 1, none⟩ = some (.slice none 0 0) := cell_of_row wc _ 1 _ _ _ D15.out
              have d2 : wc.frozen? ⟨b15, 0, none⟩ = false := by simp [World.frozen?, D15.out]
              have d3 : wc.frozen? ⟨b15, 1, none⟩ = false := by simp [World.frozen?, D15.out]
              go_wp2_with fail
              obtain ⟨wn, hwn, n1, n2, n3, n4⟩ := two_set D15.out Hc.out ho15 (.int .i64 (setH ⟨m, os⟩ ⟨2, (i8 : Int)⟩ p9 x).most) (.slice A5 (setH ⟨m, os⟩ ⟨2, (i8 : Int)⟩ p9 x).objs.length c5)
              rw [hwn]
              replace Hv := Lib.hid (far_keep Hv.out (by decide) (b := b15) (by simp) n3)
              replace D15 := Lib.hid n2
              replace Hc := Lib.hid n4
              clear d0 d1 d2 d3 hwn n1 n2 n3 n4
              refine ⟨?_, ?_⟩
              · simp only [Again, pick, List.getElem?_toArray]
                refine ⟨?_, trivial⟩
                all_goals (still_step; exact wpStill_nil rfl)
              generalize wn = wc at *
              refine tr_still ?_
              simp only [pick, List.getElem?_toArray, List.getElem?_cons_succ, List.getElem?_cons_zero]
              repeat still_step
              refine wpStill_nil ?_
              refine tr_done ?_
              refine ⟨b15, A5, c5, Locs.cons D15.out Locs.nil, far_all Hv.out (by decide), Hc.out, ho15, ?_⟩
              repeat (apply Exists.intro)
              simp only [Act.put, List.setIfInBounds_toArray, List.set_cons_succ, List.set_cons_zero]
              rfl
          · intro a w3 hR
            obtain ⟨b15, A5, c5, hL5, hv5, hb5, j5, g79, g80, g81, g82, g83, g84, g85, g86, g87, g88, g89, g90, g91, g92, g78, g93, g94, rfl⟩ := hR
            simp only [Act.put, List.setIfInBounds_toArray, List.set_cons_succ, List.set_cons_zero]
            have hB4 := below_after hB3 hb5
            have hLx := HL3.out.after hb5
            have Hall4 := Lib.hid (own_below Hall3.out hb5)
            have z3 := hb5.size
            by_cases he : setE ⟨m, os⟩ ⟨2, (i8 : Int)⟩ p9 x = 0
            · have eH : setH ⟨m, os⟩ ⟨2, (i8 : Int)⟩ p9 x = ⟨m, setOs os i8 p9.toNat x⟩ := if_pos he
              have hg2 := Hgood.out.set he
              have hnl : (setOs os i8 p9.toNat x).length = os.length := setOs_len _ _ _ _
              rw [eH] at hv5 hL5
              rw [he]
              dsimp only [Int.toNat_natCast] at hv5 hL5 hg2
              generalize setOs os i8 p9.toNat x = nos at *
              rw [hnl] at hv5 hL5
              have Hg2 := Lib.hid hg2
              have Hv3 := Lib.hid hv5
              have HLx := Lib.hid hLx
              obtain ⟨s15, t15, -⟩ := hL5.rules
              obtain ⟨r14, q14, r10, q10, r6, q6, r4, q4, -⟩ := hLx.rules
              dsimp only at s15 t15 r14 q14 r10 q10 r6 q6 r4 q4
              have HLy := Lib.hid (HLx.out.set2 2 (.int .i64 m) (.slice A5 os.length c5) rfl rfl (by simp <;> omega)).tail.tail
              have hgl : g < W2.heap.size := (own_lt Hall3.out (g := g) rfl).1
              clear hg2 hL5 hv5 hLx eH he Hos3 Hgood HL3
              go_wp2_with fail
              go_roundw
              case rel =>
                refine ⟨k + 1, nos, A5, c5, some ⟨g, 0, none⟩, d, by omega, by go_num, by rw [hnl], Hg2.out, by rw [hnl]; exact HLy.out, ?_, ?_, below_set2 hB4 (by omega), by simp; omega⟩
                · rw [hnl]
                  exact Hv3.out.keep (by decide) (fun b hb' hS => ⟨⟨by have h : W2.heap.size ≤ b := hS; omega, fun e => by have h : W2.heap.size ≤ b := hS; simp [Value.ownBlock] at e; omega⟩,
                    (Below.heap_setCell _ _ _ _ (by have h : W2.heap.size ≤ b := hS; show b ≠ b6; omega)).trans (Below.heap_setCell _ _ _ _ (by have h : W2.heap.size ≤ b := hS; show b ≠ b6; omega))⟩)
                · rw [hnl]
                  exact own_keep Hall4.out (Nat.le_refl _) (fun b hb' => (Below.heap_setCell _ _ _ _ (by have := (own_lt Hall4.out hb').2; show b ≠ b6; omega)).trans (Below.heap_setCell _ _ _ _ (by have := (own_lt Hall4.out hb').2; show b ≠ b6; omega)))
              case measure => simp [intOf]; omega
            · have hne : (setE ⟨m, os⟩ ⟨2, (i8 : Int)⟩ p9 x == 0) = false := by simpa using he
              have HLx := Lib.hid hLx
              have Hv3 := Lib.hid (Hos3.out.below (by decide) hb5)
              clear hLx hL5 hv5 he Hos3 HL3
              generalize setE ⟨m, os⟩ ⟨2, (i8 : Int)⟩ p9 x = ae at *
              go_wp2_with fail
              go_roundw
              case rel => exact ⟨k + 1, os, A, c, some ⟨g, 0, none⟩, d, by omega, by go_num, rfl, Hgood.out, HLx.out.tail.tail, Hv3.out.keep (by decide) (fun b _ hS => ⟨⟨hS.1, hS.2.1⟩, rfl⟩), Hall4.out, hB4, by omega⟩
              case measure => simp [intOf]; omega
    · have Hz := Lib.hid hzr
      have hcase : (k : Int) < l.length ∧ ¬ (k : Int) < 40 ∨ ¬ (k : Int) < l.length := by omega
      rcases hcase with ⟨i1, i2⟩ | i1
      all_goals
        obtain ⟨r6, q6, r4, q4, -⟩ := Hloc.out.rules
        dsimp only at r6 q6 r4 q4
        go_wp2_with fail
        have L2 := Hloc.out.set2 1 (.int .i64 m) (.slice A os.length c) rfl rfl (by simp <;> omega)
        obtain ⟨-, -, s4, -⟩ := L2.rules
        dsimp only at s4
        refine bodyPost_ret (v := .tuple #[.agg #[.int .i64 m, .slice A os.length c], .slice B os.length d]) (by simp [results, Try.results5, go_sem, s4]) rfl ⟨os, A, c, B, d, rfl, Hgood.out, ?_, ?_, below_set2 hb (Nat.le_refl _)⟩
        · exact Hos.out.keep (by decide) (fun b hb' hS => ⟨by have := hS.1; omega, (Below.heap_setCell _ _ _ _ (by have := hS.1; show b ≠ w.heap.size; omega)).trans (Below.heap_setCell _ _ _ _ (by have := hS.1; show b ≠ w.heap.size; omega))⟩)
        · have ho := own_refs (own_keep (w' := (wr.setCell ⟨w.heap.size, 0, none⟩ (.int .i64 m)).setCell ⟨w.heap.size, 1, none⟩ (.slice A os.length c)) Hall.out (Nat.le_refl _) (fun b hb' => (Below.heap_setCell _ _ _ _ (by have := (own_lt Hall.out hb').2; show b ≠ w.heap.size; omega)).trans (Below.heap_setCell _ _ _ _ (by have := (own_lt Hall.out hb').2; show b ≠ w.heap.size; omega)))) (by omega)
          have hr := ho.rd
          exact hr.keep (by decide) (fun b _ hS => ⟨by have := hS.resolve_left id; omega, rfl⟩)
end Go.Proofs.Ytabcjdalifhpdaa
