/- The walk of heap.Collect's closure: a list of values, as they are in the other places. Condition: the map tells the new places. -/
import Derived.Test.YtabcjdalifhpdaaStA
import Derived.Test.YtabcjdalifhpdaaReach
import Derived.Test.YtabcjdalifhpdaaGet
namespace Go.Proofs.Ytabcjdalifhpdaa
open Go.RowKit

/-- A list of values whose first k are told anew. -/
def mixV (g : Int → Int) (xs : List V) (k : Nat) : List V := (xs.take k).map (newV g) ++ xs.drop k
theorem mixV_zero (g : Int → Int) (xs : List V) : mixV g xs 0 = xs := by simp [mixV]
theorem mixV_all (g : Int → Int) (xs : List V) : mixV g xs xs.length = xs.map (newV g) := by simp [mixV]
theorem mixV_at (g : Int → Int) {xs : List V} {k : Nat} {x : V} (h : xs[k]? = some x) : (mixV g xs k)[k]? = some x := by
  have hl := (List.getElem?_eq_some_iff.1 h).1
  unfold mixV
  rw [List.getElem?_append_right (by simp; omega)]
  simp [Nat.min_eq_left (Nat.le_of_lt hl), h]
theorem mixV_next (g : Int → Int) {xs : List V} {k : Nat} {x : V} (h : xs[k]? = some x) : mixV g xs (k + 1) = (mixV g xs k).set k (newV g x) := by
  obtain ⟨hl, he⟩ := List.getElem?_eq_some_iff.1 h
  unfold mixV
  rw [List.set_append_right _ _ (by simp; omega), List.take_add_one, h]
  simp only [List.length_map, List.length_take, Nat.min_eq_left (Nat.le_of_lt hl), Nat.sub_self]
  rw [List.drop_eq_getElem_cons hl, List.set_cons_zero]
  simp
theorem mixV_next2 (g : Int → Int) {xs : List V} {k : Nat} {x : V} (h : xs[k]? = some x) (hx : x.k = 2) : mixV g xs (k + 1) = (mixV g xs k).set k ⟨x.k, g x.n⟩ := by
  rw [mixV_next g h, newV, if_pos hx, hx]
theorem mixV_next1 (g : Int → Int) {xs : List V} {k : Nat} {x : V} (h : xs[k]? = some x) (hx : ¬ x.k = 2) : mixV g xs (k + 1) = mixV g xs k := by
  rw [mixV_next g h, newV, if_neg hx]
  have hl := (List.getElem?_eq_some_iff.1 (mixV_at g h))
  conv => rhs; rw [← List.set_getElem_self hl.1]
  rw [hl.2]
theorem mixV_len (g : Int → Int) (xs : List V) (k : Nat) : (mixV g xs k).length = xs.length := by simp [mixV]; omega

set_option maxRecDepth 100000 in
set_option maxHeartbeats 2000000 in
theorem moved_any (g : Int → Int) (bm b cnt : Nat) (S : Nat → Prop) (A : Option Addr) (c : Nat) (xs : List V) (w : World) (hr : RdSl vE w S (.slice A xs.length c) xs) (hc : w.cell? ⟨bm, 0, none⟩ = some (.map (some b)))
    (hm : MapV Try.prog 3 3 (.int .i64 0) w b cnt (fun k => .int .i64 (g k))) (hw : ∀ x ∈ xs, x.k = 2 → 0 ≤ x.n ∧ x.n < 60) :
    Calls Try.prog 28 #[.slice A xs.length c, .pointer (some ⟨bm, 0, none⟩)] w (ClonedV w (fun _ => False) (xs.map (newV g))) := by
  obtain ⟨-, h1, h2, h3⟩ := hr.lims
  have hbm := lt_of_cell hc
  have H3 : xs.length * 16 ≤ 140737488355328 := h3
  have Hr := Lib.hid hr
  have Hc := Lib.hid hc
  have Hm := Lib.hid hm
  have Hw := Lib.hid hw
  clear hr hc hm hw h3
  have T0 : St w.heap.size w w [] := St.start w (Nat.le_refl _)
  have HT := Lib.hid T0
  have hz : w.heap.size ≤ w.heap.size := by simp
  clear T0
  go_enter Try.func28, Try.ntmps28
  go_wp2_with fail
  refine (cloneV_any _ A c xs w Hr.out).mono ?_
  rintro en W1 ⟨v1, rfl, hown, hb⟩
  obtain ⟨A1, c1, rfl⟩ := own_formV hown
  obtain ⟨T', K'⟩ := HT.out.ownV hb hown (n := w.heap.size) (Nat.le_refl _)
  try dsimp only [List.set, List.eraseIdx, List.setIfInBounds_toArray] at T' K'
  replace HT := Lib.hid T'
  clear T' K'
  replace hz : w.heap.size ≤ W1.heap.size := Nat.le_trans hz hb.size
  clear hb hown
  clear Hr
  go_wp2_with fail
  rw [show vcs xs = vcs (mixV g xs 0) by rw [mixV_zero]] at HT
  go_loopw [10] (fun i wl1 => ∃ k : Nat, i = .int .i64 k ∧ k ≤ xs.length ∧ St w.heap.size w wl1 [.row w.heap.size 30 2 (.slice A1 xs.length c1) xs.length (cat (vcs (mixV g xs k)))] ∧ w.heap.size ≤ wl1.heap.size) (fun i _ => xs.length - (intOf i).toNat)
  case atStart =>
    refine ⟨0, ?_, ?_, ?_, ?_⟩
    · rfl
    · exact Nat.zero_le _
    · with_reducible exact HT.out
    · exact hz
  case round =>
    generalize wr = wl1 at *
    clear HT hz
    obtain ⟨k, rfl, hk, ht, hz⟩ := hrel
    have HT := Lib.hid ht
    clear ht 
    by_cases hlt : k < xs.length
    · obtain ⟨x, hx⟩ : ∃ x, xs[k]? = some x := ⟨xs[k], List.getElem?_eq_getElem hlt⟩
      obtain ⟨gb, rfl, hgb⟩ := own_pos (HT.out.own 0 rfl) (by omega)
      have hmx := mixV_at g hx
      obtain ⟨y0, y1⟩ := HT.out.vCell 0 rfl hmx
      have qT := fun i => HT.out.rowFree 0 rfl i
      have HX := Lib.hid hx
      have Hmx := Lib.hid hmx
      clear hx hmx
      have i1 : (0 : Int) ≤ (k : Int) := by omega
      have i2 : (k : Int) < (xs.length : Int) := by omega
      go_upto_region 5 with fail
      obtain ⟨T', K'⟩ := HT.out.new' #[.int .i64 x.k, .int .i64 x.n] 30 wl1.heap.size (by first | (simp; done) | rfl)
      try dsimp only [List.set, List.eraseIdx, List.setIfInBounds_toArray] at T' K'
      replace HT := Lib.hid T'
      clear T' K'
      replace hz : w.heap.size ≤ ((wl1.alloc (.cells #[.int .i64 x.k, .int .i64 x.n] 30))).heap.size := Nat.le_trans hz (by simp)
      generalize (wl1.alloc (.cells #[.int .i64 x.k, .int .i64 x.n] 30)) = W2 at *
      clear y0 y1
      obtain ⟨r_v, q_v, -⟩ := HT.out.rules
      have z_v : wl1.heap.size < W2.heap.size := (HT.out.in_ 0 rfl rfl).2
      by_cases hx2 : x.k = 2
      · have hwx := Hw.out x (List.mem_of_getElem? HX.out) hx2
        have hxb : (x.k == 2) = true := by simpa using hx2
        have hbc : W2.cell? ⟨bm, 0, none⟩ = some (.map (some b)) := (HT.out.below.cell (p := ⟨bm, 0, none⟩) hbm).trans Hc.out
        have hm2 := Hm.out.keep (HT.out.below.block _ Hm.out.lt)
        have hrun := hm2.lookup (.inr ⟨_, Try.underlying3⟩) Try.underlying3 Try.underlying61 (zeroI _) (wf60 ⟨hwx.1, hwx.2⟩)
        have hnw : mixV g xs (k + 1) = (mixV g xs k).set k ⟨x.k, g x.n⟩ := mixV_next2 g HX.out hx2
        have Hnw := Lib.hid hnw
        have Hx2 := Lib.hid hx2
        have qT := fun i => HT.out.rowFree 1 rfl i
        obtain ⟨y0, y1⟩ := HT.out.vCell 1 rfl Hmx.out
        clear hm2 hnw hx2
        go_upto_region 7 with fail
        clear r_v q_v z_v
        obtain ⟨T', K'⟩ := HT.out.rowPut 1 (k * 2 + 1) (.int .i64 (g x.n)) rfl
        try dsimp only [List.set, List.eraseIdx, List.setIfInBounds_toArray] at T' K'
        replace HT := Lib.hid T'
        clear T' K'
        replace hz : w.heap.size ≤ ((W2.setCell ⟨gb, k * 2 + 1, none⟩ (.int .i64 (g x.n)))).heap.size := by simpa using hz
        rw [vcs_setN Hmx.out, ← Hnw.out] at HT
        obtain ⟨T', K'⟩ := HT.out.drop 0
        try dsimp only [List.set, List.eraseIdx, List.setIfInBounds_toArray] at T' K'
        replace HT := Lib.hid T'
        clear T' K'
        clear hrun hbc qT y0 y1
        go_wp2_with fail
        go_roundw
        case rel =>
          refine ⟨k + 1, ?_, ?_, ?_, ?_⟩
          · go_num
          · omega
          · with_reducible exact HT.out
          · exact hz
        case measure => simp [intOf]; omega
      · have hxb : (x.k == 2) = false := by simpa using hx2
        have hnw : mixV g xs (k + 1) = mixV g xs k := mixV_next1 g HX.out hx2
        have Hnw := Lib.hid hnw
        clear hnw hx2
        go_wp2_with fail
        obtain ⟨T', K'⟩ := HT.out.drop 0
        try dsimp only [List.set, List.eraseIdx, List.setIfInBounds_toArray] at T' K'
        replace HT := Lib.hid T'
        clear T' K'
        rw [← Hnw.out] at HT
        clear r_v q_v z_v
        go_roundw
        case rel =>
          refine ⟨k + 1, ?_, ?_, ?_, ?_⟩
          · go_num
          · omega
          · with_reducible exact HT.out
          · exact hz
        case measure => simp [intOf]; omega
    · have hkk : k = xs.length := by omega
      subst hkk
      rw [mixV_all] at HT
      clear hk hlt
      go_wp2_with fail
      go_ret
      exact ⟨_, rfl, HT.out.outV 0 (xs := xs.map (newV g)) rfl (by simp) (by simpa using H3) _, HT.out.below⟩
end Go.Proofs.Ytabcjdalifhpdaa
