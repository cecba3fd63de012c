/- The walk of treadwheelref.laterOf. Condition: registers and the operator are in their bounds. The walks of the document's mayBeDone, waysOn, sameKnown. Condition: registers, the operator and places are in their bounds. -/
import Derived.Test.YtabcjdalifhpdaaDoorFlowM
import Derived.Test.YtabcjdalifhpdaaDoorStA
import Derived.Test.YtabcjdalifhpdaaDoorAppAny
namespace Go.Proofs.YtabcjdalifhpdaaDoor
section
open Go.RowKit
/-- A list of numbers in memory of the call's own. -/
def NewI (w : World) (l : List Int) (en : Ending) (w' : World) : Prop := ∃ A c, en = .returned (.slice A l.length c) ∧ RdSl iE w' (fun b => w.heap.size ≤ b) (.slice A l.length c) l ∧ Below w.heap.size w w'
theorem rdI_cells {w : World} {S : Nat → Prop} {A : Option Addr} {n c : Nat} {xs : List Int} (h : RdSl iE w S (.slice A n c) xs) : ∀ ad, A = some ad → ∀ (j : Nat) (u : Value), (xs.map (.int .i64))[j]? = some u → w.cell? (ad.add j) = some u := fun ad hA j u hu => by
  subst hA
  simp only [List.getElem?_map, Option.map_eq_some_iff] at hu
  obtain ⟨x, hx, rfl⟩ := hu
  obtain ⟨b, o, hA, _, _, hc⟩ := h.at_i hx
  cases hA
  rw [addr_add]
  exact hc

theorem set_flip (k : List Int) (a b : Nat) (x : Int) : (k.set b x).set a x = (k.set a x).set b x := by
  by_cases h : a = b
  · subst h; rfl
  · exact (List.set_comm _ _ h).symm
set_option maxRecDepth 100000 in
set_option maxHeartbeats 8000000 in
theorem laterOf_any (S : Nat → Prop) (A : Option Addr) (c : Nat) (k : List Int) (hk : k.length = 8) (op n : Int) (a b : Nat) (ho : 0 ≤ op ∧ op ≤ 19) (ha : a < 8) (hb : b < 8) (w : World) (hr : RdSl iE w S (.slice A k.length c) k) :
    Calls Tryd.prog 126 #[.slice A k.length c, .agg #[.int .i64 op, .int .i64 a, .int .i64 b, .int .i64 n]] w (NewI w (laterP k ⟨op, a, b, n⟩)) := by
  obtain ⟨i0, hi0, hz0, hz1, hz2⟩ := info_parts (show (Tryd.prog.info? 3).map (fun i => (i.zero, i.size, i.bytes)) = some (some (.int .i64 0), 1, 8) by kernel_rfl)
  have hxa := at8_at (k := k) (a := a) (by omega)
  have hxb := at8_at (k := k) (a := b) (by omega)
  have hL := later_len (k := k) (i := ⟨op, a, b, n⟩)
  rw [hk] at hL
  have a1 : (0 : Int) ≤ (a : Int) := by omega
  have a2 : (a : Int) < 8 := by omega
  have b1 : (0 : Int) ≤ (b : Int) := by omega
  have b2 : (b : Int) < 8 := by omega
  obtain ⟨-, l1, l2, l3⟩ := hr.lims
  obtain ⟨fb, fo, rfl, _, _, _⟩ := hr.at_i hxa
  have HXa := Lib.hid hxa
  have HXb := Lib.hid hxb
  have Hk := Lib.hid hk
  have HLn := Lib.hid hL
  have Hr := Lib.hid hr
  clear hxa hxb hL hr l3
  generalize hxa : at8 k (a : Int) = xa at *
  generalize hxb : at8 k (b : Int) = xb at *
  have Hxb := Lib.hid hxb
  clear hxa hxb
  rw [hk] at Hr l1 ⊢
  have l1' : (8 : Nat) ≤ c := l1
  clear hk
  rcases op_cases (show ¬ (op < 0 ∨ 19 < op) by omega) with rfl | rfl | rfl | rfl | rfl | rfl | rfl | rfl | rfl | rfl | rfl | rfl | rfl | rfl | rfl | rfl | rfl | rfl | rfl | rfl
  · have T0 : St w.heap.size w ((w.alloc (.cells #[.int .i64 0, .int .i64 a, .int .i64 b, .int .i64 n] 42))) [.blk w.heap.size #[.int .i64 0, .int .i64 a, .int .i64 b, .int .i64 n] 42] := ((St.start w (Nat.le_refl _)).new' #[.int .i64 0, .int .i64 a, .int .i64 b, .int .i64 n] 42 (w.heap.size) (by simp)).1
    have HT := Lib.hid T0
    have hz : w.heap.size + 1 ≤ (w.alloc (.cells #[.int .i64 0, .int .i64 a, .int .i64 b, .int .i64 n] 42)).heap.size := by simp
    clear T0
    replace Hr : Hid (RdSl iE ((w.alloc (.cells #[.int .i64 0, .int .i64 a, .int .i64 b, .int .i64 n] 42))) (Fr 0 [.blk w.heap.size #[.int .i64 0, .int .i64 a, .int .i64 b, .int .i64 n] 42]) (.slice (some ⟨fb, fo, none⟩) 8 c) k) := Lib.hid (Hr.out.pool (by decide) HT.out)
    go_enter Tryd.func126, Tryd.ntmps126
    go_upto_region 1 with fail
    generalize (w.alloc (.cells #[.int .i64 0, .int .i64 a, .int .i64 b, .int .i64 n] 42)) = W1 at *
    go_wp2_with (at_builtin; go_loud (refine wpList_append_any _ rfl (.const (.slice none 0 0)) (.tmp 6) _ rfl W1.heap.size 3 i0 _ 1 8 Tryd.underlying55 hi0 hz0 hz1 hz2 rfl (by omega) (.slice none 0 0) 0 [] rfl ⟨by simp, .inl ⟨rfl, rfl⟩⟩ (some ⟨fb, fo, none⟩) 8 c (k.map (.int .i64)) rfl (by simpa using Hk.out) (rdI_cells Hr.out) (fun h => by cases h) (fun u hu => by obtain ⟨x, _, rfl⟩ := List.mem_map.1 hu; rfl) (by unfold maxLen; omega) (by omega) (Nat.le_refl _) ?next))
    case next =>
      intro v1 w1 hown hg
      obtain ⟨A1, c1, rfl⟩ := own_form hown
      obtain ⟨go, rfl, hgo⟩ := own_posA hown (by omega)
      obtain ⟨T', K'⟩ := HT.out.ownRow ((Below.refl _ _).grown hg (Nat.le_refl _) (fun k hk => by cases hk)) hown (m := w.heap.size) (by omega)
      replace T' : St w.heap.size w w1 [.row w.heap.size 3 1 (.slice (some ⟨go, 0, none⟩) 8 c1) 8 (k.map (.int .i64)), .blk w.heap.size #[.int .i64 0, .int .i64 a, .int .i64 b, .int .i64 n] 42] := T'
      replace K' : Keeps W1 [.blk w.heap.size #[.int .i64 0, .int .i64 a, .int .i64 b, .int .i64 n] 42] w1 [.row w.heap.size 3 1 (.slice (some ⟨go, 0, none⟩) 8 c1) 8 (k.map (.int .i64)), .blk w.heap.size #[.int .i64 0, .int .i64 a, .int .i64 b, .int .i64 n] 42] := K'
      replace HT := Lib.hid T'
      replace Hr := Lib.hid (Hr.out.move (by decide) K')
      replace hz : w.heap.size + 1 ≤ w1.heap.size := Nat.le_trans hz hg.size
      clear T' K' hown hg hgo
      obtain ⟨r_i, q_i, -⟩ := HT.out.rules
      have z_i : w.heap.size < w1.heap.size := (HT.out.in_ 1 rfl rfl).2
      go_upto_region 31 with fail
      clear r_i q_i z_i
      go_wp2_with fail
      go_ret
      have hfin : laterP k ⟨0, a, b, n⟩ = k := later_no (by decide)
      rw [hfin] at HLn ⊢
      have hl8 := HLn.out
      show NewI w _ (.returned (.slice (some ⟨go, 0, none⟩) 8 c1)) _
      have hO := HT.out.outI (n := w.heap.size) 0 (xs := k) rfl HLn.out.symm (by rw [HLn.out]; omega) (Nat.le_refl _)
      exact ⟨_, c1, by rw [hl8], by rw [hl8]; exact hO.from_ (by decide), HT.out.below⟩
  · have T0 : St w.heap.size w ((w.alloc (.cells #[.int .i64 1, .int .i64 a, .int .i64 b, .int .i64 n] 42))) [.blk w.heap.size #[.int .i64 1, .int .i64 a, .int .i64 b, .int .i64 n] 42] := ((St.start w (Nat.le_refl _)).new' #[.int .i64 1, .int .i64 a, .int .i64 b, .int .i64 n] 42 (w.heap.size) (by simp)).1
    have HT := Lib.hid T0
    have hz : w.heap.size + 1 ≤ (w.alloc (.cells #[.int .i64 1, .int .i64 a, .int .i64 b, .int .i64 n] 42)).heap.size := by simp
    clear T0
    replace Hr : Hid (RdSl iE ((w.alloc (.cells #[.int .i64 1, .int .i64 a, .int .i64 b, .int .i64 n] 42))) (Fr 0 [.blk w.heap.size #[.int .i64 1, .int .i64 a, .int .i64 b, .int .i64 n] 42]) (.slice (some ⟨fb, fo, none⟩) 8 c) k) := Lib.hid (Hr.out.pool (by decide) HT.out)
    go_enter Tryd.func126, Tryd.ntmps126
    go_upto_region 1 with fail
    generalize (w.alloc (.cells #[.int .i64 1, .int .i64 a, .int .i64 b, .int .i64 n] 42)) = W2 at *
    go_wp2_with (at_builtin; go_loud (refine wpList_append_any _ rfl (.const (.slice none 0 0)) (.tmp 6) _ rfl W2.heap.size 3 i0 _ 1 8 Tryd.underlying55 hi0 hz0 hz1 hz2 rfl (by omega) (.slice none 0 0) 0 [] rfl ⟨by simp, .inl ⟨rfl, rfl⟩⟩ (some ⟨fb, fo, none⟩) 8 c (k.map (.int .i64)) rfl (by simpa using Hk.out) (rdI_cells Hr.out) (fun h => by cases h) (fun u hu => by obtain ⟨x, _, rfl⟩ := List.mem_map.1 hu; rfl) (by unfold maxLen; omega) (by omega) (Nat.le_refl _) ?next))
    case next =>
      intro v1 w1 hown hg
      obtain ⟨A1, c1, rfl⟩ := own_form hown
      obtain ⟨go, rfl, hgo⟩ := own_posA hown (by omega)
      obtain ⟨T', K'⟩ := HT.out.ownRow ((Below.refl _ _).grown hg (Nat.le_refl _) (fun k hk => by cases hk)) hown (m := w.heap.size) (by omega)
      replace T' : St w.heap.size w w1 [.row w.heap.size 3 1 (.slice (some ⟨go, 0, none⟩) 8 c1) 8 (k.map (.int .i64)), .blk w.heap.size #[.int .i64 1, .int .i64 a, .int .i64 b, .int .i64 n] 42] := T'
      replace K' : Keeps W2 [.blk w.heap.size #[.int .i64 1, .int .i64 a, .int .i64 b, .int .i64 n] 42] w1 [.row w.heap.size 3 1 (.slice (some ⟨go, 0, none⟩) 8 c1) 8 (k.map (.int .i64)), .blk w.heap.size #[.int .i64 1, .int .i64 a, .int .i64 b, .int .i64 n] 42] := K'
      replace HT := Lib.hid T'
      replace Hr := Lib.hid (Hr.out.move (by decide) K')
      replace hz : w.heap.size + 1 ≤ w1.heap.size := Nat.le_trans hz hg.size
      clear T' K' hown hg hgo
      obtain ⟨r_i, q_i, -⟩ := HT.out.rules
      have z_i : w.heap.size < w1.heap.size := (HT.out.in_ 1 rfl rfl).2
      have f_o := fun i => HT.out.rowFree 0 rfl i
      obtain ⟨u_a, hu_a⟩ : ∃ x, k[a]? = some x := ⟨_, List.getElem?_eq_getElem (by have := Hk.out; simp; omega)⟩
      have c_a : w1.cell? ⟨go, a, none⟩ = some (.int .i64 u_a) := HT.out.iCell 0 rfl hu_a
      clear hu_a
      go_upto_region 31 with fail
      clear r_i q_i z_i f_o c_a
      obtain ⟨T', K'⟩ := HT.out.iPut 0 a 1 rfl
      simp only [List.set_cons_zero] at T' K'
      replace HT := Lib.hid T'
      replace Hr := Lib.hid (Hr.out.move (by decide) K')
      clear T' K'
      replace hz : w.heap.size + 1 ≤ ((w1.setCell ⟨go, a, none⟩ (.int .i64 1))).heap.size := by simpa using hz
      generalize (w1.setCell ⟨go, a, none⟩ (.int .i64 1)) = W3 at *
      go_wp2_with fail
      go_ret
      have hfin : laterP k ⟨1, a, b, n⟩ = (k.set a 1) := later_one (by decide)
      rw [hfin] at HLn ⊢
      have hl8 := HLn.out
      show NewI w _ (.returned (.slice (some ⟨go, 0, none⟩) 8 c1)) _
      have hO := HT.out.outI (n := w.heap.size) 0 (xs := (k.set a 1)) rfl HLn.out.symm (by rw [HLn.out]; omega) (Nat.le_refl _)
      exact ⟨_, c1, by rw [hl8], by rw [hl8]; exact hO.from_ (by decide), HT.out.below⟩
  · have T0 : St w.heap.size w ((w.alloc (.cells #[.int .i64 2, .int .i64 a, .int .i64 b, .int .i64 n] 42))) [.blk w.heap.size #[.int .i64 2, .int .i64 a, .int .i64 b, .int .i64 n] 42] := ((St.start w (Nat.le_refl _)).new' #[.int .i64 2, .int .i64 a, .int .i64 b, .int .i64 n] 42 (w.heap.size) (by simp)).1
    have HT := Lib.hid T0
    have hz : w.heap.size + 1 ≤ (w.alloc (.cells #[.int .i64 2, .int .i64 a, .int .i64 b, .int .i64 n] 42)).heap.size := by simp
    clear T0
    replace Hr : Hid (RdSl iE ((w.alloc (.cells #[.int .i64 2, .int .i64 a, .int .i64 b, .int .i64 n] 42))) (Fr 0 [.blk w.heap.size #[.int .i64 2, .int .i64 a, .int .i64 b, .int .i64 n] 42]) (.slice (some ⟨fb, fo, none⟩) 8 c) k) := Lib.hid (Hr.out.pool (by decide) HT.out)
    go_enter Tryd.func126, Tryd.ntmps126
    go_upto_region 1 with fail
    generalize (w.alloc (.cells #[.int .i64 2, .int .i64 a, .int .i64 b, .int .i64 n] 42)) = W4 at *
    go_wp2_with (at_builtin; go_loud (refine wpList_append_any _ rfl (.const (.slice none 0 0)) (.tmp 6) _ rfl W4.heap.size 3 i0 _ 1 8 Tryd.underlying55 hi0 hz0 hz1 hz2 rfl (by omega) (.slice none 0 0) 0 [] rfl ⟨by simp, .inl ⟨rfl, rfl⟩⟩ (some ⟨fb, fo, none⟩) 8 c (k.map (.int .i64)) rfl (by simpa using Hk.out) (rdI_cells Hr.out) (fun h => by cases h) (fun u hu => by obtain ⟨x, _, rfl⟩ := List.mem_map.1 hu; rfl) (by unfold maxLen; omega) (by omega) (Nat.le_refl _) ?next))
    case next =>
      intro v1 w1 hown hg
      obtain ⟨A1, c1, rfl⟩ := own_form hown
      obtain ⟨go, rfl, hgo⟩ := own_posA hown (by omega)
      obtain ⟨T', K'⟩ := HT.out.ownRow ((Below.refl _ _).grown hg (Nat.le_refl _) (fun k hk => by cases hk)) hown (m := w.heap.size) (by omega)
      replace T' : St w.heap.size w w1 [.row w.heap.size 3 1 (.slice (some ⟨go, 0, none⟩) 8 c1) 8 (k.map (.int .i64)), .blk w.heap.size #[.int .i64 2, .int .i64 a, .int .i64 b, .int .i64 n] 42] := T'
      replace K' : Keeps W4 [.blk w.heap.size #[.int .i64 2, .int .i64 a, .int .i64 b, .int .i64 n] 42] w1 [.row w.heap.size 3 1 (.slice (some ⟨go, 0, none⟩) 8 c1) 8 (k.map (.int .i64)), .blk w.heap.size #[.int .i64 2, .int .i64 a, .int .i64 b, .int .i64 n] 42] := K'
      replace HT := Lib.hid T'
      replace Hr := Lib.hid (Hr.out.move (by decide) K')
      replace hz : w.heap.size + 1 ≤ w1.heap.size := Nat.le_trans hz hg.size
      clear T' K' hown hg hgo
      obtain ⟨r_i, q_i, -⟩ := HT.out.rules
      have z_i : w.heap.size < w1.heap.size := (HT.out.in_ 1 rfl rfl).2
      have f_o := fun i => HT.out.rowFree 0 rfl i
      obtain ⟨u_a, hu_a⟩ : ∃ x, k[a]? = some x := ⟨_, List.getElem?_eq_getElem (by have := Hk.out; simp; omega)⟩
      have c_a : w1.cell? ⟨go, a, none⟩ = some (.int .i64 u_a) := HT.out.iCell 0 rfl hu_a
      clear hu_a
      go_upto_region 31 with fail
      clear r_i q_i z_i f_o c_a
      obtain ⟨T', K'⟩ := HT.out.iPut 0 a 1 rfl
      simp only [List.set_cons_zero] at T' K'
      replace HT := Lib.hid T'
      replace Hr := Lib.hid (Hr.out.move (by decide) K')
      clear T' K'
      replace hz : w.heap.size + 1 ≤ ((w1.setCell ⟨go, a, none⟩ (.int .i64 1))).heap.size := by simpa using hz
      generalize (w1.setCell ⟨go, a, none⟩ (.int .i64 1)) = W5 at *
      go_wp2_with fail
      go_ret
      have hfin : laterP k ⟨2, a, b, n⟩ = (k.set a 1) := later_one (by decide)
      rw [hfin] at HLn ⊢
      have hl8 := HLn.out
      show NewI w _ (.returned (.slice (some ⟨go, 0, none⟩) 8 c1)) _
      have hO := HT.out.outI (n := w.heap.size) 0 (xs := (k.set a 1)) rfl HLn.out.symm (by rw [HLn.out]; omega) (Nat.le_refl _)
      exact ⟨_, c1, by rw [hl8], by rw [hl8]; exact hO.from_ (by decide), HT.out.below⟩
  · have T0 : St w.heap.size w ((w.alloc (.cells #[.int .i64 3, .int .i64 a, .int .i64 b, .int .i64 n] 42))) [.blk w.heap.size #[.int .i64 3, .int .i64 a, .int .i64 b, .int .i64 n] 42] := ((St.start w (Nat.le_refl _)).new' #[.int .i64 3, .int .i64 a, .int .i64 b, .int .i64 n] 42 (w.heap.size) (by simp)).1
    have HT := Lib.hid T0
    have hz : w.heap.size + 1 ≤ (w.alloc (.cells #[.int .i64 3, .int .i64 a, .int .i64 b, .int .i64 n] 42)).heap.size := by simp
    clear T0
    replace Hr : Hid (RdSl iE ((w.alloc (.cells #[.int .i64 3, .int .i64 a, .int .i64 b, .int .i64 n] 42))) (Fr 0 [.blk w.heap.size #[.int .i64 3, .int .i64 a, .int .i64 b, .int .i64 n] 42]) (.slice (some ⟨fb, fo, none⟩) 8 c) k) := Lib.hid (Hr.out.pool (by decide) HT.out)
    go_enter Tryd.func126, Tryd.ntmps126
    go_upto_region 1 with fail
    generalize (w.alloc (.cells #[.int .i64 3, .int .i64 a, .int .i64 b, .int .i64 n] 42)) = W6 at *
    go_wp2_with (at_builtin; go_loud (refine wpList_append_any _ rfl (.const (.slice none 0 0)) (.tmp 6) _ rfl W6.heap.size 3 i0 _ 1 8 Tryd.underlying55 hi0 hz0 hz1 hz2 rfl (by omega) (.slice none 0 0) 0 [] rfl ⟨by simp, .inl ⟨rfl, rfl⟩⟩ (some ⟨fb, fo, none⟩) 8 c (k.map (.int .i64)) rfl (by simpa using Hk.out) (rdI_cells Hr.out) (fun h => by cases h) (fun u hu => by obtain ⟨x, _, rfl⟩ := List.mem_map.1 hu; rfl) (by unfold maxLen; omega) (by omega) (Nat.le_refl _) ?next))
    case next =>
      intro v1 w1 hown hg
      obtain ⟨A1, c1, rfl⟩ := own_form hown
      obtain ⟨go, rfl, hgo⟩ := own_posA hown (by omega)
      obtain ⟨T', K'⟩ := HT.out.ownRow ((Below.refl _ _).grown hg (Nat.le_refl _) (fun k hk => by cases hk)) hown (m := w.heap.size) (by omega)
      replace T' : St w.heap.size w w1 [.row w.heap.size 3 1 (.slice (some ⟨go, 0, none⟩) 8 c1) 8 (k.map (.int .i64)), .blk w.heap.size #[.int .i64 3, .int .i64 a, .int .i64 b, .int .i64 n] 42] := T'
      replace K' : Keeps W6 [.blk w.heap.size #[.int .i64 3, .int .i64 a, .int .i64 b, .int .i64 n] 42] w1 [.row w.heap.size 3 1 (.slice (some ⟨go, 0, none⟩) 8 c1) 8 (k.map (.int .i64)), .blk w.heap.size #[.int .i64 3, .int .i64 a, .int .i64 b, .int .i64 n] 42] := K'
      replace HT := Lib.hid T'
      replace Hr := Lib.hid (Hr.out.move (by decide) K')
      replace hz : w.heap.size + 1 ≤ w1.heap.size := Nat.le_trans hz hg.size
      clear T' K' hown hg hgo
      obtain ⟨r_i, q_i, -⟩ := HT.out.rules
      have z_i : w.heap.size < w1.heap.size := (HT.out.in_ 1 rfl rfl).2
      have f_o := fun i => HT.out.rowFree 0 rfl i
      obtain ⟨u_a, hu_a⟩ : ∃ x, k[a]? = some x := ⟨_, List.getElem?_eq_getElem (by have := Hk.out; simp; omega)⟩
      have c_a : w1.cell? ⟨go, a, none⟩ = some (.int .i64 u_a) := HT.out.iCell 0 rfl hu_a
      clear hu_a
      go_upto_region 31 with fail
      clear r_i q_i z_i f_o c_a
      obtain ⟨T', K'⟩ := HT.out.iPut 0 a 1 rfl
      simp only [List.set_cons_zero] at T' K'
      replace HT := Lib.hid T'
      replace Hr := Lib.hid (Hr.out.move (by decide) K')
      clear T' K'
      replace hz : w.heap.size + 1 ≤ ((w1.setCell ⟨go, a, none⟩ (.int .i64 1))).heap.size := by simpa using hz
      generalize (w1.setCell ⟨go, a, none⟩ (.int .i64 1)) = W7 at *
      go_wp2_with fail
      go_ret
      have hfin : laterP k ⟨3, a, b, n⟩ = (k.set a 1) := later_one (by decide)
      rw [hfin] at HLn ⊢
      have hl8 := HLn.out
      show NewI w _ (.returned (.slice (some ⟨go, 0, none⟩) 8 c1)) _
      have hO := HT.out.outI (n := w.heap.size) 0 (xs := (k.set a 1)) rfl HLn.out.symm (by rw [HLn.out]; omega) (Nat.le_refl _)
      exact ⟨_, c1, by rw [hl8], by rw [hl8]; exact hO.from_ (by decide), HT.out.below⟩
  · have T0 : St w.heap.size w ((w.alloc (.cells #[.int .i64 4, .int .i64 a, .int .i64 b, .int .i64 n] 42))) [.blk w.heap.size #[.int .i64 4, .int .i64 a, .int .i64 b, .int .i64 n] 42] := ((St.start w (Nat.le_refl _)).new' #[.int .i64 4, .int .i64 a, .int .i64 b, .int .i64 n] 42 (w.heap.size) (by simp)).1
    have HT := Lib.hid T0
    have hz : w.heap.size + 1 ≤ (w.alloc (.cells #[.int .i64 4, .int .i64 a, .int .i64 b, .int .i64 n] 42)).heap.size := by simp
    clear T0
    replace Hr : Hid (RdSl iE ((w.alloc (.cells #[.int .i64 4, .int .i64 a, .int .i64 b, .int .i64 n] 42))) (Fr 0 [.blk w.heap.size #[.int .i64 4, .int .i64 a, .int .i64 b, .int .i64 n] 42]) (.slice (some ⟨fb, fo, none⟩) 8 c) k) := Lib.hid (Hr.out.pool (by decide) HT.out)
    go_enter Tryd.func126, Tryd.ntmps126
    go_upto_region 1 with fail
    generalize (w.alloc (.cells #[.int .i64 4, .int .i64 a, .int .i64 b, .int .i64 n] 42)) = W8 at *
    go_wp2_with (at_builtin; go_loud (refine wpList_append_any _ rfl (.const (.slice none 0 0)) (.tmp 6) _ rfl W8.heap.size 3 i0 _ 1 8 Tryd.underlying55 hi0 hz0 hz1 hz2 rfl (by omega) (.slice none 0 0) 0 [] rfl ⟨by simp, .inl ⟨rfl, rfl⟩⟩ (some ⟨fb, fo, none⟩) 8 c (k.map (.int .i64)) rfl (by simpa using Hk.out) (rdI_cells Hr.out) (fun h => by cases h) (fun u hu => by obtain ⟨x, _, rfl⟩ := List.mem_map.1 hu; rfl) (by unfold maxLen; omega) (by omega) (Nat.le_refl _) ?next))
    case next =>
      intro v1 w1 hown hg
      obtain ⟨A1, c1, rfl⟩ := own_form hown
      obtain ⟨go, rfl, hgo⟩ := own_posA hown (by omega)
      obtain ⟨T', K'⟩ := HT.out.ownRow ((Below.refl _ _).grown hg (Nat.le_refl _) (fun k hk => by cases hk)) hown (m := w.heap.size) (by omega)
      replace T' : St w.heap.size w w1 [.row w.heap.size 3 1 (.slice (some ⟨go, 0, none⟩) 8 c1) 8 (k.map (.int .i64)), .blk w.heap.size #[.int .i64 4, .int .i64 a, .int .i64 b, .int .i64 n] 42] := T'
      replace K' : Keeps W8 [.blk w.heap.size #[.int .i64 4, .int .i64 a, .int .i64 b, .int .i64 n] 42] w1 [.row w.heap.size 3 1 (.slice (some ⟨go, 0, none⟩) 8 c1) 8 (k.map (.int .i64)), .blk w.heap.size #[.int .i64 4, .int .i64 a, .int .i64 b, .int .i64 n] 42] := K'
      replace HT := Lib.hid T'
      replace Hr := Lib.hid (Hr.out.move (by decide) K')
      replace hz : w.heap.size + 1 ≤ w1.heap.size := Nat.le_trans hz hg.size
      clear T' K' hown hg hgo
      obtain ⟨r_i, q_i, -⟩ := HT.out.rules
      have z_i : w.heap.size < w1.heap.size := (HT.out.in_ 1 rfl rfl).2
      have f_o := fun i => HT.out.rowFree 0 rfl i
      obtain ⟨u_a, hu_a⟩ : ∃ x, k[a]? = some x := ⟨_, List.getElem?_eq_getElem (by have := Hk.out; simp; omega)⟩
      have c_a : w1.cell? ⟨go, a, none⟩ = some (.int .i64 u_a) := HT.out.iCell 0 rfl hu_a
      clear hu_a
      go_upto_region 31 with fail
      clear r_i q_i z_i f_o c_a
      obtain ⟨T', K'⟩ := HT.out.iPut 0 a 1 rfl
      simp only [List.set_cons_zero] at T' K'
      replace HT := Lib.hid T'
      replace Hr := Lib.hid (Hr.out.move (by decide) K')
      clear T' K'
      replace hz : w.heap.size + 1 ≤ ((w1.setCell ⟨go, a, none⟩ (.int .i64 1))).heap.size := by simpa using hz
      generalize (w1.setCell ⟨go, a, none⟩ (.int .i64 1)) = W9 at *
      go_wp2_with fail
      go_ret
      have hfin : laterP k ⟨4, a, b, n⟩ = (k.set a 1) := later_one (by decide)
      rw [hfin] at HLn ⊢
      have hl8 := HLn.out
      show NewI w _ (.returned (.slice (some ⟨go, 0, none⟩) 8 c1)) _
      have hO := HT.out.outI (n := w.heap.size) 0 (xs := (k.set a 1)) rfl HLn.out.symm (by rw [HLn.out]; omega) (Nat.le_refl _)
      exact ⟨_, c1, by rw [hl8], by rw [hl8]; exact hO.from_ (by decide), HT.out.below⟩
  · have T0 : St w.heap.size w ((w.alloc (.cells #[.int .i64 5, .int .i64 a, .int .i64 b, .int .i64 n] 42))) [.blk w.heap.size #[.int .i64 5, .int .i64 a, .int .i64 b, .int .i64 n] 42] := ((St.start w (Nat.le_refl _)).new' #[.int .i64 5, .int .i64 a, .int .i64 b, .int .i64 n] 42 (w.heap.size) (by simp)).1
    have HT := Lib.hid T0
    have hz : w.heap.size + 1 ≤ (w.alloc (.cells #[.int .i64 5, .int .i64 a, .int .i64 b, .int .i64 n] 42)).heap.size := by simp
    clear T0
    replace Hr : Hid (RdSl iE ((w.alloc (.cells #[.int .i64 5, .int .i64 a, .int .i64 b, .int .i64 n] 42))) (Fr 0 [.blk w.heap.size #[.int .i64 5, .int .i64 a, .int .i64 b, .int .i64 n] 42]) (.slice (some ⟨fb, fo, none⟩) 8 c) k) := Lib.hid (Hr.out.pool (by decide) HT.out)
    go_enter Tryd.func126, Tryd.ntmps126
    go_upto_region 1 with fail
    generalize (w.alloc (.cells #[.int .i64 5, .int .i64 a, .int .i64 b, .int .i64 n] 42)) = W10 at *
    go_wp2_with (at_builtin; go_loud (refine wpList_append_any _ rfl (.const (.slice none 0 0)) (.tmp 6) _ rfl W10.heap.size 3 i0 _ 1 8 Tryd.underlying55 hi0 hz0 hz1 hz2 rfl (by omega) (.slice none 0 0) 0 [] rfl ⟨by simp, .inl ⟨rfl, rfl⟩⟩ (some ⟨fb, fo, none⟩) 8 c (k.map (.int .i64)) rfl (by simpa using Hk.out) (rdI_cells Hr.out) (fun h => by cases h) (fun u hu => by obtain ⟨x, _, rfl⟩ := List.mem_map.1 hu; rfl) (by unfold maxLen; omega) (by omega) (Nat.le_refl _) ?next))
    case next =>
      intro v1 w1 hown hg
      obtain ⟨A1, c1, rfl⟩ := own_form hown
      obtain ⟨go, rfl, hgo⟩ := own_posA hown (by omega)
      obtain ⟨T', K'⟩ := HT.out.ownRow ((Below.refl _ _).grown hg (Nat.le_refl _) (fun k hk => by cases hk)) hown (m := w.heap.size) (by omega)
      replace T' : St w.heap.size w w1 [.row w.heap.size 3 1 (.slice (some ⟨go, 0, none⟩) 8 c1) 8 (k.map (.int .i64)), .blk w.heap.size #[.int .i64 5, .int .i64 a, .int .i64 b, .int .i64 n] 42] := T'
      replace K' : Keeps W10 [.blk w.heap.size #[.int .i64 5, .int .i64 a, .int .i64 b, .int .i64 n] 42] w1 [.row w.heap.size 3 1 (.slice (some ⟨go, 0, none⟩) 8 c1) 8 (k.map (.int .i64)), .blk w.heap.size #[.int .i64 5, .int .i64 a, .int .i64 b, .int .i64 n] 42] := K'
      replace HT := Lib.hid T'
      replace Hr := Lib.hid (Hr.out.move (by decide) K')
      replace hz : w.heap.size + 1 ≤ w1.heap.size := Nat.le_trans hz hg.size
      clear T' K' hown hg hgo
      obtain ⟨r_i, q_i, -⟩ := HT.out.rules
      have z_i : w.heap.size < w1.heap.size := (HT.out.in_ 1 rfl rfl).2
      go_upto_region 31 with fail
      clear r_i q_i z_i
      go_wp2_with fail
      go_ret
      have hfin : laterP k ⟨5, a, b, n⟩ = k := later_no (by decide)
      rw [hfin] at HLn ⊢
      have hl8 := HLn.out
      show NewI w _ (.returned (.slice (some ⟨go, 0, none⟩) 8 c1)) _
      have hO := HT.out.outI (n := w.heap.size) 0 (xs := k) rfl HLn.out.symm (by rw [HLn.out]; omega) (Nat.le_refl _)
      exact ⟨_, c1, by rw [hl8], by rw [hl8]; exact hO.from_ (by decide), HT.out.below⟩
  · have T0 : St w.heap.size w ((w.alloc (.cells #[.int .i64 6, .int .i64 a, .int .i64 b, .int .i64 n] 42))) [.blk w.heap.size #[.int .i64 6, .int .i64 a, .int .i64 b, .int .i64 n] 42] := ((St.start w (Nat.le_refl _)).new' #[.int .i64 6, .int .i64 a, .int .i64 b, .int .i64 n] 42 (w.heap.size) (by simp)).1
    have HT := Lib.hid T0
    have hz : w.heap.size + 1 ≤ (w.alloc (.cells #[.int .i64 6, .int .i64 a, .int .i64 b, .int .i64 n] 42)).heap.size := by simp
    clear T0
    replace Hr : Hid (RdSl iE ((w.alloc (.cells #[.int .i64 6, .int .i64 a, .int .i64 b, .int .i64 n] 42))) (Fr 0 [.blk w.heap.size #[.int .i64 6, .int .i64 a, .int .i64 b, .int .i64 n] 42]) (.slice (some ⟨fb, fo, none⟩) 8 c) k) := Lib.hid (Hr.out.pool (by decide) HT.out)
    go_enter Tryd.func126, Tryd.ntmps126
    go_upto_region 1 with fail
    generalize (w.alloc (.cells #[.int .i64 6, .int .i64 a, .int .i64 b, .int .i64 n] 42)) = W11 at *
    go_wp2_with (at_builtin; go_loud (refine wpList_append_any _ rfl (.const (.slice none 0 0)) (.tmp 6) _ rfl W11.heap.size 3 i0 _ 1 8 Tryd.underlying55 hi0 hz0 hz1 hz2 rfl (by omega) (.slice none 0 0) 0 [] rfl ⟨by simp, .inl ⟨rfl, rfl⟩⟩ (some ⟨fb, fo, none⟩) 8 c (k.map (.int .i64)) rfl (by simpa using Hk.out) (rdI_cells Hr.out) (fun h => by cases h) (fun u hu => by obtain ⟨x, _, rfl⟩ := List.mem_map.1 hu; rfl) (by unfold maxLen; omega) (by omega) (Nat.le_refl _) ?next))
    case next =>
      intro v1 w1 hown hg
      obtain ⟨A1, c1, rfl⟩ := own_form hown
      obtain ⟨go, rfl, hgo⟩ := own_posA hown (by omega)
      obtain ⟨T', K'⟩ := HT.out.ownRow ((Below.refl _ _).grown hg (Nat.le_refl _) (fun k hk => by cases hk)) hown (m := w.heap.size) (by omega)
      replace T' : St w.heap.size w w1 [.row w.heap.size 3 1 (.slice (some ⟨go, 0, none⟩) 8 c1) 8 (k.map (.int .i64)), .blk w.heap.size #[.int .i64 6, .int .i64 a, .int .i64 b, .int .i64 n] 42] := T'
      replace K' : Keeps W11 [.blk w.heap.size #[.int .i64 6, .int .i64 a, .int .i64 b, .int .i64 n] 42] w1 [.row w.heap.size 3 1 (.slice (some ⟨go, 0, none⟩) 8 c1) 8 (k.map (.int .i64)), .blk w.heap.size #[.int .i64 6, .int .i64 a, .int .i64 b, .int .i64 n] 42] := K'
      replace HT := Lib.hid T'
      replace Hr := Lib.hid (Hr.out.move (by decide) K')
      replace hz : w.heap.size + 1 ≤ w1.heap.size := Nat.le_trans hz hg.size
      clear T' K' hown hg hgo
      obtain ⟨r_i, q_i, -⟩ := HT.out.rules
      have z_i : w.heap.size < w1.heap.size := (HT.out.in_ 1 rfl rfl).2
      go_upto_region 31 with fail
      clear r_i q_i z_i
      go_wp2_with fail
      go_ret
      have hfin : laterP k ⟨6, a, b, n⟩ = k := later_no (by decide)
      rw [hfin] at HLn ⊢
      have hl8 := HLn.out
      show NewI w _ (.returned (.slice (some ⟨go, 0, none⟩) 8 c1)) _
      have hO := HT.out.outI (n := w.heap.size) 0 (xs := k) rfl HLn.out.symm (by rw [HLn.out]; omega) (Nat.le_refl _)
      exact ⟨_, c1, by rw [hl8], by rw [hl8]; exact hO.from_ (by decide), HT.out.below⟩
  · have T0 : St w.heap.size w ((w.alloc (.cells #[.int .i64 7, .int .i64 a, .int .i64 b, .int .i64 n] 42))) [.blk w.heap.size #[.int .i64 7, .int .i64 a, .int .i64 b, .int .i64 n] 42] := ((St.start w (Nat.le_refl _)).new' #[.int .i64 7, .int .i64 a, .int .i64 b, .int .i64 n] 42 (w.heap.size) (by simp)).1
    have HT := Lib.hid T0
    have hz : w.heap.size + 1 ≤ (w.alloc (.cells #[.int .i64 7, .int .i64 a, .int .i64 b, .int .i64 n] 42)).heap.size := by simp
    clear T0
    replace Hr : Hid (RdSl iE ((w.alloc (.cells #[.int .i64 7, .int .i64 a, .int .i64 b, .int .i64 n] 42))) (Fr 0 [.blk w.heap.size #[.int .i64 7, .int .i64 a, .int .i64 b, .int .i64 n] 42]) (.slice (some ⟨fb, fo, none⟩) 8 c) k) := Lib.hid (Hr.out.pool (by decide) HT.out)
    go_enter Tryd.func126, Tryd.ntmps126
    go_upto_region 1 with fail
    generalize (w.alloc (.cells #[.int .i64 7, .int .i64 a, .int .i64 b, .int .i64 n] 42)) = W12 at *
    go_wp2_with (at_builtin; go_loud (refine wpList_append_any _ rfl (.const (.slice none 0 0)) (.tmp 6) _ rfl W12.heap.size 3 i0 _ 1 8 Tryd.underlying55 hi0 hz0 hz1 hz2 rfl (by omega) (.slice none 0 0) 0 [] rfl ⟨by simp, .inl ⟨rfl, rfl⟩⟩ (some ⟨fb, fo, none⟩) 8 c (k.map (.int .i64)) rfl (by simpa using Hk.out) (rdI_cells Hr.out) (fun h => by cases h) (fun u hu => by obtain ⟨x, _, rfl⟩ := List.mem_map.1 hu; rfl) (by unfold maxLen; omega) (by omega) (Nat.le_refl _) ?next))
    case next =>
      intro v1 w1 hown hg
      obtain ⟨A1, c1, rfl⟩ := own_form hown
      obtain ⟨go, rfl, hgo⟩ := own_posA hown (by omega)
      obtain ⟨T', K'⟩ := HT.out.ownRow ((Below.refl _ _).grown hg (Nat.le_refl _) (fun k hk => by cases hk)) hown (m := w.heap.size) (by omega)
      replace T' : St w.heap.size w w1 [.row w.heap.size 3 1 (.slice (some ⟨go, 0, none⟩) 8 c1) 8 (k.map (.int .i64)), .blk w.heap.size #[.int .i64 7, .int .i64 a, .int .i64 b, .int .i64 n] 42] := T'
      replace K' : Keeps W12 [.blk w.heap.size #[.int .i64 7, .int .i64 a, .int .i64 b, .int .i64 n] 42] w1 [.row w.heap.size 3 1 (.slice (some ⟨go, 0, none⟩) 8 c1) 8 (k.map (.int .i64)), .blk w.heap.size #[.int .i64 7, .int .i64 a, .int .i64 b, .int .i64 n] 42] := K'
      replace HT := Lib.hid T'
      replace Hr := Lib.hid (Hr.out.move (by decide) K')
      replace hz : w.heap.size + 1 ≤ w1.heap.size := Nat.le_trans hz hg.size
      clear T' K' hown hg hgo
      obtain ⟨r_i, q_i, -⟩ := HT.out.rules
      have z_i : w.heap.size < w1.heap.size := (HT.out.in_ 1 rfl rfl).2
      have f_o := fun i => HT.out.rowFree 0 rfl i
      obtain ⟨u_a, hu_a⟩ : ∃ x, k[a]? = some x := ⟨_, List.getElem?_eq_getElem (by have := Hk.out; simp; omega)⟩
      have c_a : w1.cell? ⟨go, a, none⟩ = some (.int .i64 u_a) := HT.out.iCell 0 rfl hu_a
      clear hu_a
      go_upto_region 31 with fail
      clear r_i q_i z_i f_o c_a
      obtain ⟨T', K'⟩ := HT.out.iPut 0 a 3 rfl
      simp only [List.set_cons_zero] at T' K'
      replace HT := Lib.hid T'
      replace Hr := Lib.hid (Hr.out.move (by decide) K')
      clear T' K'
      replace hz : w.heap.size + 1 ≤ ((w1.setCell ⟨go, a, none⟩ (.int .i64 3))).heap.size := by simpa using hz
      generalize (w1.setCell ⟨go, a, none⟩ (.int .i64 3)) = W13 at *
      go_wp2_with fail
      go_ret
      have hfin : laterP k ⟨7, a, b, n⟩ = (k.set a 3) := later_new
      rw [hfin] at HLn ⊢
      have hl8 := HLn.out
      show NewI w _ (.returned (.slice (some ⟨go, 0, none⟩) 8 c1)) _
      have hO := HT.out.outI (n := w.heap.size) 0 (xs := (k.set a 3)) rfl HLn.out.symm (by rw [HLn.out]; omega) (Nat.le_refl _)
      exact ⟨_, c1, by rw [hl8], by rw [hl8]; exact hO.from_ (by decide), HT.out.below⟩
  · have T0 : St w.heap.size w ((w.alloc (.cells #[.int .i64 8, .int .i64 a, .int .i64 b, .int .i64 n] 42))) [.blk w.heap.size #[.int .i64 8, .int .i64 a, .int .i64 b, .int .i64 n] 42] := ((St.start w (Nat.le_refl _)).new' #[.int .i64 8, .int .i64 a, .int .i64 b, .int .i64 n] 42 (w.heap.size) (by simp)).1
    have HT := Lib.hid T0
    have hz : w.heap.size + 1 ≤ (w.alloc (.cells #[.int .i64 8, .int .i64 a, .int .i64 b, .int .i64 n] 42)).heap.size := by simp
    clear T0
    replace Hr : Hid (RdSl iE ((w.alloc (.cells #[.int .i64 8, .int .i64 a, .int .i64 b, .int .i64 n] 42))) (Fr 0 [.blk w.heap.size #[.int .i64 8, .int .i64 a, .int .i64 b, .int .i64 n] 42]) (.slice (some ⟨fb, fo, none⟩) 8 c) k) := Lib.hid (Hr.out.pool (by decide) HT.out)
    go_enter Tryd.func126, Tryd.ntmps126
    go_upto_region 1 with fail
    generalize (w.alloc (.cells #[.int .i64 8, .int .i64 a, .int .i64 b, .int .i64 n] 42)) = W14 at *
    go_wp2_with (at_builtin; go_loud (refine wpList_append_any _ rfl (.const (.slice none 0 0)) (.tmp 6) _ rfl W14.heap.size 3 i0 _ 1 8 Tryd.underlying55 hi0 hz0 hz1 hz2 rfl (by omega) (.slice none 0 0) 0 [] rfl ⟨by simp, .inl ⟨rfl, rfl⟩⟩ (some ⟨fb, fo, none⟩) 8 c (k.map (.int .i64)) rfl (by simpa using Hk.out) (rdI_cells Hr.out) (fun h => by cases h) (fun u hu => by obtain ⟨x, _, rfl⟩ := List.mem_map.1 hu; rfl) (by unfold maxLen; omega) (by omega) (Nat.le_refl _) ?next))
    case next =>
      intro v1 w1 hown hg
      obtain ⟨A1, c1, rfl⟩ := own_form hown
      obtain ⟨go, rfl, hgo⟩ := own_posA hown (by omega)
      obtain ⟨T', K'⟩ := HT.out.ownRow ((Below.refl _ _).grown hg (Nat.le_refl _) (fun k hk => by cases hk)) hown (m := w.heap.size) (by omega)
      replace T' : St w.heap.size w w1 [.row w.heap.size 3 1 (.slice (some ⟨go, 0, none⟩) 8 c1) 8 (k.map (.int .i64)), .blk w.heap.size #[.int .i64 8, .int .i64 a, .int .i64 b, .int .i64 n] 42] := T'
      replace K' : Keeps W14 [.blk w.heap.size #[.int .i64 8, .int .i64 a, .int .i64 b, .int .i64 n] 42] w1 [.row w.heap.size 3 1 (.slice (some ⟨go, 0, none⟩) 8 c1) 8 (k.map (.int .i64)), .blk w.heap.size #[.int .i64 8, .int .i64 a, .int .i64 b, .int .i64 n] 42] := K'
      replace HT := Lib.hid T'
      replace Hr := Lib.hid (Hr.out.move (by decide) K')
      replace hz : w.heap.size + 1 ≤ w1.heap.size := Nat.le_trans hz hg.size
      clear T' K' hown hg hgo
      obtain ⟨r_i, q_i, -⟩ := HT.out.rules
      have z_i : w.heap.size < w1.heap.size := (HT.out.in_ 1 rfl rfl).2
      have f_o := fun i => HT.out.rowFree 0 rfl i
      obtain ⟨u_a, hu_a⟩ : ∃ x, k[a]? = some x := ⟨_, List.getElem?_eq_getElem (by have := Hk.out; simp; omega)⟩
      have c_a : w1.cell? ⟨go, a, none⟩ = some (.int .i64 u_a) := HT.out.iCell 0 rfl hu_a
      clear hu_a
      go_upto_region 31 with fail
      clear r_i q_i z_i f_o c_a
      obtain ⟨T', K'⟩ := HT.out.iPut 0 a 1 rfl
      simp only [List.set_cons_zero] at T' K'
      replace HT := Lib.hid T'
      replace Hr := Lib.hid (Hr.out.move (by decide) K')
      clear T' K'
      replace hz : w.heap.size + 1 ≤ ((w1.setCell ⟨go, a, none⟩ (.int .i64 1))).heap.size := by simpa using hz
      generalize (w1.setCell ⟨go, a, none⟩ (.int .i64 1)) = W15 at *
      go_wp2_with fail
      go_ret
      have hfin : laterP k ⟨8, a, b, n⟩ = (k.set a 1) := later_one (by decide)
      rw [hfin] at HLn ⊢
      have hl8 := HLn.out
      show NewI w _ (.returned (.slice (some ⟨go, 0, none⟩) 8 c1)) _
      have hO := HT.out.outI (n := w.heap.size) 0 (xs := (k.set a 1)) rfl HLn.out.symm (by rw [HLn.out]; omega) (Nat.le_refl _)
      exact ⟨_, c1, by rw [hl8], by rw [hl8]; exact hO.from_ (by decide), HT.out.below⟩
  · have T0 : St w.heap.size w ((w.alloc (.cells #[.int .i64 9, .int .i64 a, .int .i64 b, .int .i64 n] 42))) [.blk w.heap.size #[.int .i64 9, .int .i64 a, .int .i64 b, .int .i64 n] 42] := ((St.start w (Nat.le_refl _)).new' #[.int .i64 9, .int .i64 a, .int .i64 b, .int .i64 n] 42 (w.heap.size) (by simp)).1
    have HT := Lib.hid T0
    have hz : w.heap.size + 1 ≤ (w.alloc (.cells #[.int .i64 9, .int .i64 a, .int .i64 b, .int .i64 n] 42)).heap.size := by simp
    clear T0
    replace Hr : Hid (RdSl iE ((w.alloc (.cells #[.int .i64 9, .int .i64 a, .int .i64 b, .int .i64 n] 42))) (Fr 0 [.blk w.heap.size #[.int .i64 9, .int .i64 a, .int .i64 b, .int .i64 n] 42]) (.slice (some ⟨fb, fo, none⟩) 8 c) k) := Lib.hid (Hr.out.pool (by decide) HT.out)
    go_enter Tryd.func126, Tryd.ntmps126
    go_upto_region 1 with fail
    generalize (w.alloc (.cells #[.int .i64 9, .int .i64 a, .int .i64 b, .int .i64 n] 42)) = W16 at *
    go_wp2_with (at_builtin; go_loud (refine wpList_append_any _ rfl (.const (.slice none 0 0)) (.tmp 6) _ rfl W16.heap.size 3 i0 _ 1 8 Tryd.underlying55 hi0 hz0 hz1 hz2 rfl (by omega) (.slice none 0 0) 0 [] rfl ⟨by simp, .inl ⟨rfl, rfl⟩⟩ (some ⟨fb, fo, none⟩) 8 c (k.map (.int .i64)) rfl (by simpa using Hk.out) (rdI_cells Hr.out) (fun h => by cases h) (fun u hu => by obtain ⟨x, _, rfl⟩ := List.mem_map.1 hu; rfl) (by unfold maxLen; omega) (by omega) (Nat.le_refl _) ?next))
    case next =>
      intro v1 w1 hown hg
      obtain ⟨A1, c1, rfl⟩ := own_form hown
      obtain ⟨go, rfl, hgo⟩ := own_posA hown (by omega)
      obtain ⟨T', K'⟩ := HT.out.ownRow ((Below.refl _ _).grown hg (Nat.le_refl _) (fun k hk => by cases hk)) hown (m := w.heap.size) (by omega)
      replace T' : St w.heap.size w w1 [.row w.heap.size 3 1 (.slice (some ⟨go, 0, none⟩) 8 c1) 8 (k.map (.int .i64)), .blk w.heap.size #[.int .i64 9, .int .i64 a, .int .i64 b, .int .i64 n] 42] := T'
      replace K' : Keeps W16 [.blk w.heap.size #[.int .i64 9, .int .i64 a, .int .i64 b, .int .i64 n] 42] w1 [.row w.heap.size 3 1 (.slice (some ⟨go, 0, none⟩) 8 c1) 8 (k.map (.int .i64)), .blk w.heap.size #[.int .i64 9, .int .i64 a, .int .i64 b, .int .i64 n] 42] := K'
      replace HT := Lib.hid T'
      replace Hr := Lib.hid (Hr.out.move (by decide) K')
      replace hz : w.heap.size + 1 ≤ w1.heap.size := Nat.le_trans hz hg.size
      clear T' K' hown hg hgo
      obtain ⟨r_i, q_i, -⟩ := HT.out.rules
      have z_i : w.heap.size < w1.heap.size := (HT.out.in_ 1 rfl rfl).2
      go_upto_region 31 with fail
      clear r_i q_i z_i
      go_wp2_with fail
      go_ret
      have hfin : laterP k ⟨9, a, b, n⟩ = k := later_no (by decide)
      rw [hfin] at HLn ⊢
      have hl8 := HLn.out
      show NewI w _ (.returned (.slice (some ⟨go, 0, none⟩) 8 c1)) _
      have hO := HT.out.outI (n := w.heap.size) 0 (xs := k) rfl HLn.out.symm (by rw [HLn.out]; omega) (Nat.le_refl _)
      exact ⟨_, c1, by rw [hl8], by rw [hl8]; exact hO.from_ (by decide), HT.out.below⟩
  · have T0 : St w.heap.size w ((w.alloc (.cells #[.int .i64 10, .int .i64 a, .int .i64 b, .int .i64 n] 42))) [.blk w.heap.size #[.int .i64 10, .int .i64 a, .int .i64 b, .int .i64 n] 42] := ((St.start w (Nat.le_refl _)).new' #[.int .i64 10, .int .i64 a, .int .i64 b, .int .i64 n] 42 (w.heap.size) (by simp)).1
    have HT := Lib.hid T0
    have hz : w.heap.size + 1 ≤ (w.alloc (.cells #[.int .i64 10, .int .i64 a, .int .i64 b, .int .i64 n] 42)).heap.size := by simp
    clear T0
    replace Hr : Hid (RdSl iE ((w.alloc (.cells #[.int .i64 10, .int .i64 a, .int .i64 b, .int .i64 n] 42))) (Fr 0 [.blk w.heap.size #[.int .i64 10, .int .i64 a, .int .i64 b, .int .i64 n] 42]) (.slice (some ⟨fb, fo, none⟩) 8 c) k) := Lib.hid (Hr.out.pool (by decide) HT.out)
    go_enter Tryd.func126, Tryd.ntmps126
    go_upto_region 1 with fail
    generalize (w.alloc (.cells #[.int .i64 10, .int .i64 a, .int .i64 b, .int .i64 n] 42)) = W17 at *
    go_wp2_with (at_builtin; go_loud (refine wpList_append_any _ rfl (.const (.slice none 0 0)) (.tmp 6) _ rfl W17.heap.size 3 i0 _ 1 8 Tryd.underlying55 hi0 hz0 hz1 hz2 rfl (by omega) (.slice none 0 0) 0 [] rfl ⟨by simp, .inl ⟨rfl, rfl⟩⟩ (some ⟨fb, fo, none⟩) 8 c (k.map (.int .i64)) rfl (by simpa using Hk.out) (rdI_cells Hr.out) (fun h => by cases h) (fun u hu => by obtain ⟨x, _, rfl⟩ := List.mem_map.1 hu; rfl) (by unfold maxLen; omega) (by omega) (Nat.le_refl _) ?next))
    case next =>
      intro v1 w1 hown hg
      obtain ⟨A1, c1, rfl⟩ := own_form hown
      obtain ⟨go, rfl, hgo⟩ := own_posA hown (by omega)
      obtain ⟨T', K'⟩ := HT.out.ownRow ((Below.refl _ _).grown hg (Nat.le_refl _) (fun k hk => by cases hk)) hown (m := w.heap.size) (by omega)
      replace T' : St w.heap.size w w1 [.row w.heap.size 3 1 (.slice (some ⟨go, 0, none⟩) 8 c1) 8 (k.map (.int .i64)), .blk w.heap.size #[.int .i64 10, .int .i64 a, .int .i64 b, .int .i64 n] 42] := T'
      replace K' : Keeps W17 [.blk w.heap.size #[.int .i64 10, .int .i64 a, .int .i64 b, .int .i64 n] 42] w1 [.row w.heap.size 3 1 (.slice (some ⟨go, 0, none⟩) 8 c1) 8 (k.map (.int .i64)), .blk w.heap.size #[.int .i64 10, .int .i64 a, .int .i64 b, .int .i64 n] 42] := K'
      replace HT := Lib.hid T'
      replace Hr := Lib.hid (Hr.out.move (by decide) K')
      replace hz : w.heap.size + 1 ≤ w1.heap.size := Nat.le_trans hz hg.size
      clear T' K' hown hg hgo
      obtain ⟨r_i, q_i, -⟩ := HT.out.rules
      have z_i : w.heap.size < w1.heap.size := (HT.out.in_ 1 rfl rfl).2
      have f_o := fun i => HT.out.rowFree 0 rfl i
      obtain ⟨u_a, hu_a⟩ : ∃ x, k[a]? = some x := ⟨_, List.getElem?_eq_getElem (by have := Hk.out; simp; omega)⟩
      have c_a : w1.cell? ⟨go, a, none⟩ = some (.int .i64 u_a) := HT.out.iCell 0 rfl hu_a
      clear hu_a
      go_upto_region 14 with fail
      clear r_i q_i z_i f_o c_a
      obtain ⟨T', K'⟩ := HT.out.iPut 0 a 2 rfl
      simp only [List.set_cons_zero] at T' K'
      replace HT := Lib.hid T'
      replace Hr := Lib.hid (Hr.out.move (by decide) K')
      clear T' K'
      replace hz : w.heap.size + 1 ≤ ((w1.setCell ⟨go, a, none⟩ (.int .i64 2))).heap.size := by simpa using hz
      generalize (w1.setCell ⟨go, a, none⟩ (.int .i64 2)) = W18 at *
      obtain ⟨r_i, q_i, -⟩ := HT.out.rules
      have z_i : w.heap.size < W18.heap.size := (HT.out.in_ 1 rfl rfl).2
      have f_o := fun i => HT.out.rowFree 0 rfl i
      obtain ⟨u_b, hu_b⟩ : ∃ x, (k.set a 2)[b]? = some x := ⟨_, List.getElem?_eq_getElem (by have := Hk.out; simp; omega)⟩
      have c_b : W18.cell? ⟨go, b, none⟩ = some (.int .i64 u_b) := HT.out.iCell 0 rfl hu_b
      clear hu_b
      go_upto_region 31 with fail
      clear r_i q_i z_i f_o c_b
      obtain ⟨T', K'⟩ := HT.out.iPut 0 b 2 rfl
      simp only [List.set_cons_zero] at T' K'
      replace HT := Lib.hid T'
      replace Hr := Lib.hid (Hr.out.move (by decide) K')
      clear T' K'
      replace hz : w.heap.size + 1 ≤ ((W18.setCell ⟨go, b, none⟩ (.int .i64 2))).heap.size := by simpa using hz
      generalize (W18.setCell ⟨go, b, none⟩ (.int .i64 2)) = W19 at *
      go_wp2_with fail
      go_ret
      have hfin : laterP k ⟨10, a, b, n⟩ = ((k.set a 2).set b 2) := by rw [later_get, set_flip]
      rw [hfin] at HLn ⊢
      have hl8 := HLn.out
      show NewI w _ (.returned (.slice (some ⟨go, 0, none⟩) 8 c1)) _
      have hO := HT.out.outI (n := w.heap.size) 0 (xs := ((k.set a 2).set b 2)) rfl HLn.out.symm (by rw [HLn.out]; omega) (Nat.le_refl _)
      exact ⟨_, c1, by rw [hl8], by rw [hl8]; exact hO.from_ (by decide), HT.out.below⟩
  · have T0 : St w.heap.size w ((w.alloc (.cells #[.int .i64 11, .int .i64 a, .int .i64 b, .int .i64 n] 42))) [.blk w.heap.size #[.int .i64 11, .int .i64 a, .int .i64 b, .int .i64 n] 42] := ((St.start w (Nat.le_refl _)).new' #[.int .i64 11, .int .i64 a, .int .i64 b, .int .i64 n] 42 (w.heap.size) (by simp)).1
    have HT := Lib.hid T0
    have hz : w.heap.size + 1 ≤ (w.alloc (.cells #[.int .i64 11, .int .i64 a, .int .i64 b, .int .i64 n] 42)).heap.size := by simp
    clear T0
    replace Hr : Hid (RdSl iE ((w.alloc (.cells #[.int .i64 11, .int .i64 a, .int .i64 b, .int .i64 n] 42))) (Fr 0 [.blk w.heap.size #[.int .i64 11, .int .i64 a, .int .i64 b, .int .i64 n] 42]) (.slice (some ⟨fb, fo, none⟩) 8 c) k) := Lib.hid (Hr.out.pool (by decide) HT.out)
    go_enter Tryd.func126, Tryd.ntmps126
    go_upto_region 1 with fail
    generalize (w.alloc (.cells #[.int .i64 11, .int .i64 a, .int .i64 b, .int .i64 n] 42)) = W20 at *
    go_wp2_with (at_builtin; go_loud (refine wpList_append_any _ rfl (.const (.slice none 0 0)) (.tmp 6) _ rfl W20.heap.size 3 i0 _ 1 8 Tryd.underlying55 hi0 hz0 hz1 hz2 rfl (by omega) (.slice none 0 0) 0 [] rfl ⟨by simp, .inl ⟨rfl, rfl⟩⟩ (some ⟨fb, fo, none⟩) 8 c (k.map (.int .i64)) rfl (by simpa using Hk.out) (rdI_cells Hr.out) (fun h => by cases h) (fun u hu => by obtain ⟨x, _, rfl⟩ := List.mem_map.1 hu; rfl) (by unfold maxLen; omega) (by omega) (Nat.le_refl _) ?next))
    case next =>
      intro v1 w1 hown hg
      obtain ⟨A1, c1, rfl⟩ := own_form hown
      obtain ⟨go, rfl, hgo⟩ := own_posA hown (by omega)
      obtain ⟨T', K'⟩ := HT.out.ownRow ((Below.refl _ _).grown hg (Nat.le_refl _) (fun k hk => by cases hk)) hown (m := w.heap.size) (by omega)
      replace T' : St w.heap.size w w1 [.row w.heap.size 3 1 (.slice (some ⟨go, 0, none⟩) 8 c1) 8 (k.map (.int .i64)), .blk w.heap.size #[.int .i64 11, .int .i64 a, .int .i64 b, .int .i64 n] 42] := T'
      replace K' : Keeps W20 [.blk w.heap.size #[.int .i64 11, .int .i64 a, .int .i64 b, .int .i64 n] 42] w1 [.row w.heap.size 3 1 (.slice (some ⟨go, 0, none⟩) 8 c1) 8 (k.map (.int .i64)), .blk w.heap.size #[.int .i64 11, .int .i64 a, .int .i64 b, .int .i64 n] 42] := K'
      replace HT := Lib.hid T'
      replace Hr := Lib.hid (Hr.out.move (by decide) K')
      replace hz : w.heap.size + 1 ≤ w1.heap.size := Nat.le_trans hz hg.size
      clear T' K' hown hg hgo
      by_cases hab : a = b
      · have Hab := Lib.hid hab
        have e1 : ((a : Int) == (b : Int)) = true := by rw [hab]; exact beq_self_eq_true _
        clear hab
        obtain ⟨r_i, q_i, -⟩ := HT.out.rules
        have z_i : w.heap.size < w1.heap.size := (HT.out.in_ 1 rfl rfl).2
        have f_o := fun i => HT.out.rowFree 0 rfl i
        obtain ⟨u_a, hu_a⟩ : ∃ x, k[a]? = some x := ⟨_, List.getElem?_eq_getElem (by have := Hk.out; simp; omega)⟩
        have c_a : w1.cell? ⟨go, a, none⟩ = some (.int .i64 u_a) := HT.out.iCell 0 rfl hu_a
        clear hu_a
        go_upto_region 31 with fail
        clear r_i q_i z_i f_o c_a
        obtain ⟨T', K'⟩ := HT.out.iPut 0 a 2 rfl
        simp only [List.set_cons_zero] at T' K'
        replace HT := Lib.hid T'
        replace Hr := Lib.hid (Hr.out.move (by decide) K')
        clear T' K'
        replace hz : w.heap.size + 1 ≤ ((w1.setCell ⟨go, a, none⟩ (.int .i64 2))).heap.size := by simpa using hz
        generalize (w1.setCell ⟨go, a, none⟩ (.int .i64 2)) = W21 at *
        go_wp2_with fail
        go_ret
        have hfin : laterP k ⟨11, a, b, n⟩ = (k.set a 2) := later_put1 (.inl Hab.out)
        rw [hfin] at HLn ⊢
        have hl8 := HLn.out
        show NewI w _ (.returned (.slice (some ⟨go, 0, none⟩) 8 c1)) _
        have hO := HT.out.outI (n := w.heap.size) 0 (xs := (k.set a 2)) rfl HLn.out.symm (by rw [HLn.out]; omega) (Nat.le_refl _)
        exact ⟨_, c1, by rw [hl8], by rw [hl8]; exact hO.from_ (by decide), HT.out.below⟩
      · have Hab := Lib.hid hab
        have e1 : ((a : Int) == (b : Int)) = false := by simp; omega
        clear hab
        by_cases h2 : xb = 2
        · have H2 := Lib.hid h2
          have e2 : (xb == 2) = true := by simpa using h2
          clear h2
          obtain ⟨r_i, q_i, -⟩ := HT.out.rules
          have z_i : w.heap.size < w1.heap.size := (HT.out.in_ 1 rfl rfl).2
          have f_o := fun i => HT.out.rowFree 0 rfl i
          obtain ⟨u_a, hu_a⟩ : ∃ x, k[a]? = some x := ⟨_, List.getElem?_eq_getElem (by have := Hk.out; simp; omega)⟩
          have c_a : w1.cell? ⟨go, a, none⟩ = some (.int .i64 u_a) := HT.out.iCell 0 rfl hu_a
          clear hu_a
          have d_b : w1.cell? ⟨fb, fo + b, none⟩ = some (.int .i64 xb) := rd_iat Hr.out HXb.out
          go_upto_region 31 with fail
          clear r_i q_i z_i f_o c_a d_b
          obtain ⟨T', K'⟩ := HT.out.iPut 0 a 2 rfl
          simp only [List.set_cons_zero] at T' K'
          replace HT := Lib.hid T'
          replace Hr := Lib.hid (Hr.out.move (by decide) K')
          clear T' K'
          replace hz : w.heap.size + 1 ≤ ((w1.setCell ⟨go, a, none⟩ (.int .i64 2))).heap.size := by simpa using hz
          generalize (w1.setCell ⟨go, a, none⟩ (.int .i64 2)) = W22 at *
          go_wp2_with fail
          go_ret
          have hfin : laterP k ⟨11, a, b, n⟩ = (k.set a 2) := later_put1 (.inr (by rw [Hxb.out]; exact H2.out))
          rw [hfin] at HLn ⊢
          have hl8 := HLn.out
          show NewI w _ (.returned (.slice (some ⟨go, 0, none⟩) 8 c1)) _
          have hO := HT.out.outI (n := w.heap.size) 0 (xs := (k.set a 2)) rfl HLn.out.symm (by rw [HLn.out]; omega) (Nat.le_refl _)
          exact ⟨_, c1, by rw [hl8], by rw [hl8]; exact hO.from_ (by decide), HT.out.below⟩
        · have H2 := Lib.hid h2
          have e2 : (xb == 2) = false := by simpa using h2
          clear h2
          obtain ⟨r_i, q_i, -⟩ := HT.out.rules
          have z_i : w.heap.size < w1.heap.size := (HT.out.in_ 1 rfl rfl).2
          have f_o := fun i => HT.out.rowFree 0 rfl i
          obtain ⟨u_b, hu_b⟩ : ∃ x, k[b]? = some x := ⟨_, List.getElem?_eq_getElem (by have := Hk.out; simp; omega)⟩
          have c_b : w1.cell? ⟨go, b, none⟩ = some (.int .i64 u_b) := HT.out.iCell 0 rfl hu_b
          clear hu_b
          have d_b : w1.cell? ⟨fb, fo + b, none⟩ = some (.int .i64 xb) := rd_iat Hr.out HXb.out
          go_upto_region 31 with fail
          clear r_i q_i z_i f_o c_b d_b
          obtain ⟨T', K'⟩ := HT.out.iPut 0 b 0 rfl
          simp only [List.set_cons_zero] at T' K'
          replace HT := Lib.hid T'
          replace Hr := Lib.hid (Hr.out.move (by decide) K')
          clear T' K'
          replace hz : w.heap.size + 1 ≤ ((w1.setCell ⟨go, b, none⟩ (.int .i64 0))).heap.size := by simpa using hz
          generalize (w1.setCell ⟨go, b, none⟩ (.int .i64 0)) = W23 at *
          go_wp2_with fail
          go_ret
          have hfin : laterP k ⟨11, a, b, n⟩ = (k.set b 0) := later_put2 (by rw [Hxb.out]; exact fun h => h.elim Hab.out H2.out)
          rw [hfin] at HLn ⊢
          have hl8 := HLn.out
          show NewI w _ (.returned (.slice (some ⟨go, 0, none⟩) 8 c1)) _
          have hO := HT.out.outI (n := w.heap.size) 0 (xs := (k.set b 0)) rfl HLn.out.symm (by rw [HLn.out]; omega) (Nat.le_refl _)
          exact ⟨_, c1, by rw [hl8], by rw [hl8]; exact hO.from_ (by decide), HT.out.below⟩
  · have T0 : St w.heap.size w ((w.alloc (.cells #[.int .i64 12, .int .i64 a, .int .i64 b, .int .i64 n] 42))) [.blk w.heap.size #[.int .i64 12, .int .i64 a, .int .i64 b, .int .i64 n] 42] := ((St.start w (Nat.le_refl _)).new' #[.int .i64 12, .int .i64 a, .int .i64 b, .int .i64 n] 42 (w.heap.size) (by simp)).1
    have HT := Lib.hid T0
    have hz : w.heap.size + 1 ≤ (w.alloc (.cells #[.int .i64 12, .int .i64 a, .int .i64 b, .int .i64 n] 42)).heap.size := by simp
    clear T0
    replace Hr : Hid (RdSl iE ((w.alloc (.cells #[.int .i64 12, .int .i64 a, .int .i64 b, .int .i64 n] 42))) (Fr 0 [.blk w.heap.size #[.int .i64 12, .int .i64 a, .int .i64 b, .int .i64 n] 42]) (.slice (some ⟨fb, fo, none⟩) 8 c) k) := Lib.hid (Hr.out.pool (by decide) HT.out)
    go_enter Tryd.func126, Tryd.ntmps126
    go_upto_region 1 with fail
    generalize (w.alloc (.cells #[.int .i64 12, .int .i64 a, .int .i64 b, .int .i64 n] 42)) = W24 at *
    go_wp2_with (at_builtin; go_loud (refine wpList_append_any _ rfl (.const (.slice none 0 0)) (.tmp 6) _ rfl W24.heap.size 3 i0 _ 1 8 Tryd.underlying55 hi0 hz0 hz1 hz2 rfl (by omega) (.slice none 0 0) 0 [] rfl ⟨by simp, .inl ⟨rfl, rfl⟩⟩ (some ⟨fb, fo, none⟩) 8 c (k.map (.int .i64)) rfl (by simpa using Hk.out) (rdI_cells Hr.out) (fun h => by cases h) (fun u hu => by obtain ⟨x, _, rfl⟩ := List.mem_map.1 hu; rfl) (by unfold maxLen; omega) (by omega) (Nat.le_refl _) ?next))
    case next =>
      intro v1 w1 hown hg
      obtain ⟨A1, c1, rfl⟩ := own_form hown
      obtain ⟨go, rfl, hgo⟩ := own_posA hown (by omega)
      obtain ⟨T', K'⟩ := HT.out.ownRow ((Below.refl _ _).grown hg (Nat.le_refl _) (fun k hk => by cases hk)) hown (m := w.heap.size) (by omega)
      replace T' : St w.heap.size w w1 [.row w.heap.size 3 1 (.slice (some ⟨go, 0, none⟩) 8 c1) 8 (k.map (.int .i64)), .blk w.heap.size #[.int .i64 12, .int .i64 a, .int .i64 b, .int .i64 n] 42] := T'
      replace K' : Keeps W24 [.blk w.heap.size #[.int .i64 12, .int .i64 a, .int .i64 b, .int .i64 n] 42] w1 [.row w.heap.size 3 1 (.slice (some ⟨go, 0, none⟩) 8 c1) 8 (k.map (.int .i64)), .blk w.heap.size #[.int .i64 12, .int .i64 a, .int .i64 b, .int .i64 n] 42] := K'
      replace HT := Lib.hid T'
      replace Hr := Lib.hid (Hr.out.move (by decide) K')
      replace hz : w.heap.size + 1 ≤ w1.heap.size := Nat.le_trans hz hg.size
      clear T' K' hown hg hgo
      by_cases h3 : xb = 3
      · have H3 := Lib.hid h3
        have e2 : (xb == 3) = true := by simpa using h3
        clear h3
        obtain ⟨r_i, q_i, -⟩ := HT.out.rules
        have z_i : w.heap.size < w1.heap.size := (HT.out.in_ 1 rfl rfl).2
        have f_o := fun i => HT.out.rowFree 0 rfl i
        obtain ⟨u_b, hu_b⟩ : ∃ x, k[b]? = some x := ⟨_, List.getElem?_eq_getElem (by have := Hk.out; simp; omega)⟩
        have c_b : w1.cell? ⟨go, b, none⟩ = some (.int .i64 u_b) := HT.out.iCell 0 rfl hu_b
        clear hu_b
        have d_b : w1.cell? ⟨fb, fo + b, none⟩ = some (.int .i64 xb) := rd_iat Hr.out HXb.out
        go_upto_region 24 with fail
        clear r_i q_i z_i f_o c_b d_b
        obtain ⟨T', K'⟩ := HT.out.iPut 0 b 0 rfl
        simp only [List.set_cons_zero] at T' K'
        replace HT := Lib.hid T'
        replace Hr := Lib.hid (Hr.out.move (by decide) K')
        clear T' K'
        replace hz : w.heap.size + 1 ≤ ((w1.setCell ⟨go, b, none⟩ (.int .i64 0))).heap.size := by simpa using hz
        generalize (w1.setCell ⟨go, b, none⟩ (.int .i64 0)) = W25 at *
        obtain ⟨r_i, q_i, -⟩ := HT.out.rules
        have z_i : w.heap.size < W25.heap.size := (HT.out.in_ 1 rfl rfl).2
        have f_o := fun i => HT.out.rowFree 0 rfl i
        obtain ⟨u_a, hu_a⟩ : ∃ x, (k.set b 0)[a]? = some x := ⟨_, List.getElem?_eq_getElem (by have := Hk.out; simp; omega)⟩
        have c_a : W25.cell? ⟨go, a, none⟩ = some (.int .i64 u_a) := HT.out.iCell 0 rfl hu_a
        clear hu_a
        have d_b : W25.cell? ⟨fb, fo + b, none⟩ = some (.int .i64 xb) := rd_iat Hr.out HXb.out
        go_wp2_with fail
        refine wp_region_plan [.still [0, 1, 2, 3, 4, 5, 6, 7, 8], .loud 9 []] (by kernel_rfl) (by kernel_rfl) ?_
        refine plan_still ?_
        simp only [pick, List.getElem?_toArray, List.getElem?_cons_succ, List.getElem?_cons_zero]
        repeat still_step
        refine wpStill_nil ?_
        refine plan_loud ?_
        simp only [pick, List.getElem?_toArray, List.getElem?_cons_succ, List.getElem?_cons_zero]
        go_wp2_with fail
        clear r_i q_i z_i f_o c_a d_b
        obtain ⟨T', K'⟩ := HT.out.iPut 0 a xb rfl
        simp only [List.set_cons_zero] at T' K'
        replace HT := Lib.hid T'
        replace Hr := Lib.hid (Hr.out.move (by decide) K')
        clear T' K'
        replace hz : w.heap.size + 1 ≤ ((W25.setCell ⟨go, a, none⟩ (.int .i64 xb))).heap.size := by simpa using hz
        generalize (W25.setCell ⟨go, a, none⟩ (.int .i64 xb)) = W26 at *
        refine ⟨trivial, ?_⟩
        refine plan_end (NoPanic.normal ?_)
        obtain ⟨T', K'⟩ := HT.out.drew'
        replace HT := Lib.hid T'
        replace Hr := Lib.hid (Hr.out.move (by decide) K')
        clear T' K'
        replace hz : w.heap.size + 1 ≤ W26.drew.heap.size := hz
        generalize W26.drew = W27 at *
        go_wp2_with fail
        go_ret
        have hfin : laterP k ⟨12, a, b, n⟩ = ((k.set b 0).set a xb) := by rw [later_move1 (by rw [Hxb.out]; exact H3.out), Hxb.out]
        rw [hfin] at HLn ⊢
        have hl8 := HLn.out
        show NewI w _ (.returned (.slice (some ⟨go, 0, none⟩) 8 c1)) _
        have hO := HT.out.outI (n := w.heap.size) 0 (xs := ((k.set b 0).set a xb)) rfl HLn.out.symm (by rw [HLn.out]; omega) (Nat.le_refl _)
        exact ⟨_, c1, by rw [hl8], by rw [hl8]; exact hO.from_ (by decide), HT.out.below⟩
      · have H3 := Lib.hid h3
        have e2 : (xb == 3) = false := by simpa using h3
        clear h3
        obtain ⟨r_i, q_i, -⟩ := HT.out.rules
        have z_i : w.heap.size < w1.heap.size := (HT.out.in_ 1 rfl rfl).2
        have f_o := fun i => HT.out.rowFree 0 rfl i
        obtain ⟨u_b, hu_b⟩ : ∃ x, k[b]? = some x := ⟨_, List.getElem?_eq_getElem (by have := Hk.out; simp; omega)⟩
        have c_b : w1.cell? ⟨go, b, none⟩ = some (.int .i64 u_b) := HT.out.iCell 0 rfl hu_b
        clear hu_b
        have d_b : w1.cell? ⟨fb, fo + b, none⟩ = some (.int .i64 xb) := rd_iat Hr.out HXb.out
        go_upto_region 24 with fail
        clear r_i q_i z_i f_o c_b d_b
        obtain ⟨r_i, q_i, -⟩ := HT.out.rules
        have z_i : w.heap.size < w1.heap.size := (HT.out.in_ 1 rfl rfl).2
        have f_o := fun i => HT.out.rowFree 0 rfl i
        obtain ⟨u_a, hu_a⟩ : ∃ x, k[a]? = some x := ⟨_, List.getElem?_eq_getElem (by have := Hk.out; simp; omega)⟩
        have c_a : w1.cell? ⟨go, a, none⟩ = some (.int .i64 u_a) := HT.out.iCell 0 rfl hu_a
        clear hu_a
        have d_b : w1.cell? ⟨fb, fo + b, none⟩ = some (.int .i64 xb) := rd_iat Hr.out HXb.out
        go_wp2_with fail
        refine wp_region_plan [.still [0, 1, 2, 3, 4, 5, 6, 7, 8], .loud 9 []] (by kernel_rfl) (by kernel_rfl) ?_
        refine plan_still ?_
        simp only [pick, List.getElem?_toArray, List.getElem?_cons_succ, List.getElem?_cons_zero]
        repeat still_step
        refine wpStill_nil ?_
        refine plan_loud ?_
        simp only [pick, List.getElem?_toArray, List.getElem?_cons_succ, List.getElem?_cons_zero]
        go_wp2_with fail
        clear r_i q_i z_i f_o c_a d_b
        obtain ⟨T', K'⟩ := HT.out.iPut 0 a xb rfl
        simp only [List.set_cons_zero] at T' K'
        replace HT := Lib.hid T'
        replace Hr := Lib.hid (Hr.out.move (by decide) K')
        clear T' K'
        replace hz : w.heap.size + 1 ≤ ((w1.setCell ⟨go, a, none⟩ (.int .i64 xb))).heap.size := by simpa using hz
        generalize (w1.setCell ⟨go, a, none⟩ (.int .i64 xb)) = W28 at *
        refine ⟨trivial, ?_⟩
        refine plan_end (NoPanic.normal ?_)
        obtain ⟨T', K'⟩ := HT.out.drew'
        replace HT := Lib.hid T'
        replace Hr := Lib.hid (Hr.out.move (by decide) K')
        clear T' K'
        replace hz : w.heap.size + 1 ≤ W28.drew.heap.size := hz
        generalize W28.drew = W29 at *
        go_wp2_with fail
        go_ret
        have hfin : laterP k ⟨12, a, b, n⟩ = (k.set a xb) := by rw [later_move2 (by rw [Hxb.out]; exact H3.out), Hxb.out]
        rw [hfin] at HLn ⊢
        have hl8 := HLn.out
        show NewI w _ (.returned (.slice (some ⟨go, 0, none⟩) 8 c1)) _
        have hO := HT.out.outI (n := w.heap.size) 0 (xs := (k.set a xb)) rfl HLn.out.symm (by rw [HLn.out]; omega) (Nat.le_refl _)
        exact ⟨_, c1, by rw [hl8], by rw [hl8]; exact hO.from_ (by decide), HT.out.below⟩
  · have T0 : St w.heap.size w ((w.alloc (.cells #[.int .i64 13, .int .i64 a, .int .i64 b, .int .i64 n] 42))) [.blk w.heap.size #[.int .i64 13, .int .i64 a, .int .i64 b, .int .i64 n] 42] := ((St.start w (Nat.le_refl _)).new' #[.int .i64 13, .int .i64 a, .int .i64 b, .int .i64 n] 42 (w.heap.size) (by simp)).1
    have HT := Lib.hid T0
    have hz : w.heap.size + 1 ≤ (w.alloc (.cells #[.int .i64 13, .int .i64 a, .int .i64 b, .int .i64 n] 42)).heap.size := by simp
    clear T0
    replace Hr : Hid (RdSl iE ((w.alloc (.cells #[.int .i64 13, .int .i64 a, .int .i64 b, .int .i64 n] 42))) (Fr 0 [.blk w.heap.size #[.int .i64 13, .int .i64 a, .int .i64 b, .int .i64 n] 42]) (.slice (some ⟨fb, fo, none⟩) 8 c) k) := Lib.hid (Hr.out.pool (by decide) HT.out)
    go_enter Tryd.func126, Tryd.ntmps126
    go_upto_region 1 with fail
    generalize (w.alloc (.cells #[.int .i64 13, .int .i64 a, .int .i64 b, .int .i64 n] 42)) = W30 at *
    go_wp2_with (at_builtin; go_loud (refine wpList_append_any _ rfl (.const (.slice none 0 0)) (.tmp 6) _ rfl W30.heap.size 3 i0 _ 1 8 Tryd.underlying55 hi0 hz0 hz1 hz2 rfl (by omega) (.slice none 0 0) 0 [] rfl ⟨by simp, .inl ⟨rfl, rfl⟩⟩ (some ⟨fb, fo, none⟩) 8 c (k.map (.int .i64)) rfl (by simpa using Hk.out) (rdI_cells Hr.out) (fun h => by cases h) (fun u hu => by obtain ⟨x, _, rfl⟩ := List.mem_map.1 hu; rfl) (by unfold maxLen; omega) (by omega) (Nat.le_refl _) ?next))
    case next =>
      intro v1 w1 hown hg
      obtain ⟨A1, c1, rfl⟩ := own_form hown
      obtain ⟨go, rfl, hgo⟩ := own_posA hown (by omega)
      obtain ⟨T', K'⟩ := HT.out.ownRow ((Below.refl _ _).grown hg (Nat.le_refl _) (fun k hk => by cases hk)) hown (m := w.heap.size) (by omega)
      replace T' : St w.heap.size w w1 [.row w.heap.size 3 1 (.slice (some ⟨go, 0, none⟩) 8 c1) 8 (k.map (.int .i64)), .blk w.heap.size #[.int .i64 13, .int .i64 a, .int .i64 b, .int .i64 n] 42] := T'
      replace K' : Keeps W30 [.blk w.heap.size #[.int .i64 13, .int .i64 a, .int .i64 b, .int .i64 n] 42] w1 [.row w.heap.size 3 1 (.slice (some ⟨go, 0, none⟩) 8 c1) 8 (k.map (.int .i64)), .blk w.heap.size #[.int .i64 13, .int .i64 a, .int .i64 b, .int .i64 n] 42] := K'
      replace HT := Lib.hid T'
      replace Hr := Lib.hid (Hr.out.move (by decide) K')
      replace hz : w.heap.size + 1 ≤ w1.heap.size := Nat.le_trans hz hg.size
      clear T' K' hown hg hgo
      obtain ⟨r_i, q_i, -⟩ := HT.out.rules
      have z_i : w.heap.size < w1.heap.size := (HT.out.in_ 1 rfl rfl).2
      have f_o := fun i => HT.out.rowFree 0 rfl i
      obtain ⟨u_a, hu_a⟩ : ∃ x, k[a]? = some x := ⟨_, List.getElem?_eq_getElem (by have := Hk.out; simp; omega)⟩
      have c_a : w1.cell? ⟨go, a, none⟩ = some (.int .i64 u_a) := HT.out.iCell 0 rfl hu_a
      clear hu_a
      go_upto_region 31 with fail
      clear r_i q_i z_i f_o c_a
      obtain ⟨T', K'⟩ := HT.out.iPut 0 a 0 rfl
      simp only [List.set_cons_zero] at T' K'
      replace HT := Lib.hid T'
      replace Hr := Lib.hid (Hr.out.move (by decide) K')
      clear T' K'
      replace hz : w.heap.size + 1 ≤ ((w1.setCell ⟨go, a, none⟩ (.int .i64 0))).heap.size := by simpa using hz
      generalize (w1.setCell ⟨go, a, none⟩ (.int .i64 0)) = W31 at *
      go_wp2_with fail
      go_ret
      have hfin : laterP k ⟨13, a, b, n⟩ = (k.set a 0) := later_gone (by decide)
      rw [hfin] at HLn ⊢
      have hl8 := HLn.out
      show NewI w _ (.returned (.slice (some ⟨go, 0, none⟩) 8 c1)) _
      have hO := HT.out.outI (n := w.heap.size) 0 (xs := (k.set a 0)) rfl HLn.out.symm (by rw [HLn.out]; omega) (Nat.le_refl _)
      exact ⟨_, c1, by rw [hl8], by rw [hl8]; exact hO.from_ (by decide), HT.out.below⟩
  · have T0 : St w.heap.size w ((w.alloc (.cells #[.int .i64 14, .int .i64 a, .int .i64 b, .int .i64 n] 42))) [.blk w.heap.size #[.int .i64 14, .int .i64 a, .int .i64 b, .int .i64 n] 42] := ((St.start w (Nat.le_refl _)).new' #[.int .i64 14, .int .i64 a, .int .i64 b, .int .i64 n] 42 (w.heap.size) (by simp)).1
    have HT := Lib.hid T0
    have hz : w.heap.size + 1 ≤ (w.alloc (.cells #[.int .i64 14, .int .i64 a, .int .i64 b, .int .i64 n] 42)).heap.size := by simp
    clear T0
    replace Hr : Hid (RdSl iE ((w.alloc (.cells #[.int .i64 14, .int .i64 a, .int .i64 b, .int .i64 n] 42))) (Fr 0 [.blk w.heap.size #[.int .i64 14, .int .i64 a, .int .i64 b, .int .i64 n] 42]) (.slice (some ⟨fb, fo, none⟩) 8 c) k) := Lib.hid (Hr.out.pool (by decide) HT.out)
    go_enter Tryd.func126, Tryd.ntmps126
    go_upto_region 1 with fail
    generalize (w.alloc (.cells #[.int .i64 14, .int .i64 a, .int .i64 b, .int .i64 n] 42)) = W32 at *
    go_wp2_with (at_builtin; go_loud (refine wpList_append_any _ rfl (.const (.slice none 0 0)) (.tmp 6) _ rfl W32.heap.size 3 i0 _ 1 8 Tryd.underlying55 hi0 hz0 hz1 hz2 rfl (by omega) (.slice none 0 0) 0 [] rfl ⟨by simp, .inl ⟨rfl, rfl⟩⟩ (some ⟨fb, fo, none⟩) 8 c (k.map (.int .i64)) rfl (by simpa using Hk.out) (rdI_cells Hr.out) (fun h => by cases h) (fun u hu => by obtain ⟨x, _, rfl⟩ := List.mem_map.1 hu; rfl) (by unfold maxLen; omega) (by omega) (Nat.le_refl _) ?next))
    case next =>
      intro v1 w1 hown hg
      obtain ⟨A1, c1, rfl⟩ := own_form hown
      obtain ⟨go, rfl, hgo⟩ := own_posA hown (by omega)
      obtain ⟨T', K'⟩ := HT.out.ownRow ((Below.refl _ _).grown hg (Nat.le_refl _) (fun k hk => by cases hk)) hown (m := w.heap.size) (by omega)
      replace T' : St w.heap.size w w1 [.row w.heap.size 3 1 (.slice (some ⟨go, 0, none⟩) 8 c1) 8 (k.map (.int .i64)), .blk w.heap.size #[.int .i64 14, .int .i64 a, .int .i64 b, .int .i64 n] 42] := T'
      replace K' : Keeps W32 [.blk w.heap.size #[.int .i64 14, .int .i64 a, .int .i64 b, .int .i64 n] 42] w1 [.row w.heap.size 3 1 (.slice (some ⟨go, 0, none⟩) 8 c1) 8 (k.map (.int .i64)), .blk w.heap.size #[.int .i64 14, .int .i64 a, .int .i64 b, .int .i64 n] 42] := K'
      replace HT := Lib.hid T'
      replace Hr := Lib.hid (Hr.out.move (by decide) K')
      replace hz : w.heap.size + 1 ≤ w1.heap.size := Nat.le_trans hz hg.size
      clear T' K' hown hg hgo
      obtain ⟨r_i, q_i, -⟩ := HT.out.rules
      have z_i : w.heap.size < w1.heap.size := (HT.out.in_ 1 rfl rfl).2
      go_upto_region 31 with fail
      clear r_i q_i z_i
      go_wp2_with fail
      go_ret
      have hfin : laterP k ⟨14, a, b, n⟩ = k := later_no (by decide)
      rw [hfin] at HLn ⊢
      have hl8 := HLn.out
      show NewI w _ (.returned (.slice (some ⟨go, 0, none⟩) 8 c1)) _
      have hO := HT.out.outI (n := w.heap.size) 0 (xs := k) rfl HLn.out.symm (by rw [HLn.out]; omega) (Nat.le_refl _)
      exact ⟨_, c1, by rw [hl8], by rw [hl8]; exact hO.from_ (by decide), HT.out.below⟩
  · have T0 : St w.heap.size w ((w.alloc (.cells #[.int .i64 15, .int .i64 a, .int .i64 b, .int .i64 n] 42))) [.blk w.heap.size #[.int .i64 15, .int .i64 a, .int .i64 b, .int .i64 n] 42] := ((St.start w (Nat.le_refl _)).new' #[.int .i64 15, .int .i64 a, .int .i64 b, .int .i64 n] 42 (w.heap.size) (by simp)).1
    have HT := Lib.hid T0
    have hz : w.heap.size + 1 ≤ (w.alloc (.cells #[.int .i64 15, .int .i64 a, .int .i64 b, .int .i64 n] 42)).heap.size := by simp
    clear T0
    replace Hr : Hid (RdSl iE ((w.alloc (.cells #[.int .i64 15, .int .i64 a, .int .i64 b, .int .i64 n] 42))) (Fr 0 [.blk w.heap.size #[.int .i64 15, .int .i64 a, .int .i64 b, .int .i64 n] 42]) (.slice (some ⟨fb, fo, none⟩) 8 c) k) := Lib.hid (Hr.out.pool (by decide) HT.out)
    go_enter Tryd.func126, Tryd.ntmps126
    go_upto_region 1 with fail
    generalize (w.alloc (.cells #[.int .i64 15, .int .i64 a, .int .i64 b, .int .i64 n] 42)) = W33 at *
    go_wp2_with (at_builtin; go_loud (refine wpList_append_any _ rfl (.const (.slice none 0 0)) (.tmp 6) _ rfl W33.heap.size 3 i0 _ 1 8 Tryd.underlying55 hi0 hz0 hz1 hz2 rfl (by omega) (.slice none 0 0) 0 [] rfl ⟨by simp, .inl ⟨rfl, rfl⟩⟩ (some ⟨fb, fo, none⟩) 8 c (k.map (.int .i64)) rfl (by simpa using Hk.out) (rdI_cells Hr.out) (fun h => by cases h) (fun u hu => by obtain ⟨x, _, rfl⟩ := List.mem_map.1 hu; rfl) (by unfold maxLen; omega) (by omega) (Nat.le_refl _) ?next))
    case next =>
      intro v1 w1 hown hg
      obtain ⟨A1, c1, rfl⟩ := own_form hown
      obtain ⟨go, rfl, hgo⟩ := own_posA hown (by omega)
      obtain ⟨T', K'⟩ := HT.out.ownRow ((Below.refl _ _).grown hg (Nat.le_refl _) (fun k hk => by cases hk)) hown (m := w.heap.size) (by omega)
      replace T' : St w.heap.size w w1 [.row w.heap.size 3 1 (.slice (some ⟨go, 0, none⟩) 8 c1) 8 (k.map (.int .i64)), .blk w.heap.size #[.int .i64 15, .int .i64 a, .int .i64 b, .int .i64 n] 42] := T'
      replace K' : Keeps W33 [.blk w.heap.size #[.int .i64 15, .int .i64 a, .int .i64 b, .int .i64 n] 42] w1 [.row w.heap.size 3 1 (.slice (some ⟨go, 0, none⟩) 8 c1) 8 (k.map (.int .i64)), .blk w.heap.size #[.int .i64 15, .int .i64 a, .int .i64 b, .int .i64 n] 42] := K'
      replace HT := Lib.hid T'
      replace Hr := Lib.hid (Hr.out.move (by decide) K')
      replace hz : w.heap.size + 1 ≤ w1.heap.size := Nat.le_trans hz hg.size
      clear T' K' hown hg hgo
      obtain ⟨r_i, q_i, -⟩ := HT.out.rules
      have z_i : w.heap.size < w1.heap.size := (HT.out.in_ 1 rfl rfl).2
      go_upto_region 31 with fail
      clear r_i q_i z_i
      go_wp2_with fail
      go_ret
      have hfin : laterP k ⟨15, a, b, n⟩ = k := later_no (by decide)
      rw [hfin] at HLn ⊢
      have hl8 := HLn.out
      show NewI w _ (.returned (.slice (some ⟨go, 0, none⟩) 8 c1)) _
      have hO := HT.out.outI (n := w.heap.size) 0 (xs := k) rfl HLn.out.symm (by rw [HLn.out]; omega) (Nat.le_refl _)
      exact ⟨_, c1, by rw [hl8], by rw [hl8]; exact hO.from_ (by decide), HT.out.below⟩
  · have T0 : St w.heap.size w ((w.alloc (.cells #[.int .i64 16, .int .i64 a, .int .i64 b, .int .i64 n] 42))) [.blk w.heap.size #[.int .i64 16, .int .i64 a, .int .i64 b, .int .i64 n] 42] := ((St.start w (Nat.le_refl _)).new' #[.int .i64 16, .int .i64 a, .int .i64 b, .int .i64 n] 42 (w.heap.size) (by simp)).1
    have HT := Lib.hid T0
    have hz : w.heap.size + 1 ≤ (w.alloc (.cells #[.int .i64 16, .int .i64 a, .int .i64 b, .int .i64 n] 42)).heap.size := by simp
    clear T0
    replace Hr : Hid (RdSl iE ((w.alloc (.cells #[.int .i64 16, .int .i64 a, .int .i64 b, .int .i64 n] 42))) (Fr 0 [.blk w.heap.size #[.int .i64 16, .int .i64 a, .int .i64 b, .int .i64 n] 42]) (.slice (some ⟨fb, fo, none⟩) 8 c) k) := Lib.hid (Hr.out.pool (by decide) HT.out)
    go_enter Tryd.func126, Tryd.ntmps126
    go_upto_region 1 with fail
    generalize (w.alloc (.cells #[.int .i64 16, .int .i64 a, .int .i64 b, .int .i64 n] 42)) = W34 at *
    go_wp2_with (at_builtin; go_loud (refine wpList_append_any _ rfl (.const (.slice none 0 0)) (.tmp 6) _ rfl W34.heap.size 3 i0 _ 1 8 Tryd.underlying55 hi0 hz0 hz1 hz2 rfl (by omega) (.slice none 0 0) 0 [] rfl ⟨by simp, .inl ⟨rfl, rfl⟩⟩ (some ⟨fb, fo, none⟩) 8 c (k.map (.int .i64)) rfl (by simpa using Hk.out) (rdI_cells Hr.out) (fun h => by cases h) (fun u hu => by obtain ⟨x, _, rfl⟩ := List.mem_map.1 hu; rfl) (by unfold maxLen; omega) (by omega) (Nat.le_refl _) ?next))
    case next =>
      intro v1 w1 hown hg
      obtain ⟨A1, c1, rfl⟩ := own_form hown
      obtain ⟨go, rfl, hgo⟩ := own_posA hown (by omega)
      obtain ⟨T', K'⟩ := HT.out.ownRow ((Below.refl _ _).grown hg (Nat.le_refl _) (fun k hk => by cases hk)) hown (m := w.heap.size) (by omega)
      replace T' : St w.heap.size w w1 [.row w.heap.size 3 1 (.slice (some ⟨go, 0, none⟩) 8 c1) 8 (k.map (.int .i64)), .blk w.heap.size #[.int .i64 16, .int .i64 a, .int .i64 b, .int .i64 n] 42] := T'
      replace K' : Keeps W34 [.blk w.heap.size #[.int .i64 16, .int .i64 a, .int .i64 b, .int .i64 n] 42] w1 [.row w.heap.size 3 1 (.slice (some ⟨go, 0, none⟩) 8 c1) 8 (k.map (.int .i64)), .blk w.heap.size #[.int .i64 16, .int .i64 a, .int .i64 b, .int .i64 n] 42] := K'
      replace HT := Lib.hid T'
      replace Hr := Lib.hid (Hr.out.move (by decide) K')
      replace hz : w.heap.size + 1 ≤ w1.heap.size := Nat.le_trans hz hg.size
      clear T' K' hown hg hgo
      obtain ⟨r_i, q_i, -⟩ := HT.out.rules
      have z_i : w.heap.size < w1.heap.size := (HT.out.in_ 1 rfl rfl).2
      have f_o := fun i => HT.out.rowFree 0 rfl i
      obtain ⟨u_a, hu_a⟩ : ∃ x, k[a]? = some x := ⟨_, List.getElem?_eq_getElem (by have := Hk.out; simp; omega)⟩
      have c_a : w1.cell? ⟨go, a, none⟩ = some (.int .i64 u_a) := HT.out.iCell 0 rfl hu_a
      clear hu_a
      go_upto_region 31 with fail
      clear r_i q_i z_i f_o c_a
      obtain ⟨T', K'⟩ := HT.out.iPut 0 a 1 rfl
      simp only [List.set_cons_zero] at T' K'
      replace HT := Lib.hid T'
      replace Hr := Lib.hid (Hr.out.move (by decide) K')
      clear T' K'
      replace hz : w.heap.size + 1 ≤ ((w1.setCell ⟨go, a, none⟩ (.int .i64 1))).heap.size := by simpa using hz
      generalize (w1.setCell ⟨go, a, none⟩ (.int .i64 1)) = W35 at *
      go_wp2_with fail
      go_ret
      have hfin : laterP k ⟨16, a, b, n⟩ = (k.set a 1) := later_one (by decide)
      rw [hfin] at HLn ⊢
      have hl8 := HLn.out
      show NewI w _ (.returned (.slice (some ⟨go, 0, none⟩) 8 c1)) _
      have hO := HT.out.outI (n := w.heap.size) 0 (xs := (k.set a 1)) rfl HLn.out.symm (by rw [HLn.out]; omega) (Nat.le_refl _)
      exact ⟨_, c1, by rw [hl8], by rw [hl8]; exact hO.from_ (by decide), HT.out.below⟩
  · have T0 : St w.heap.size w ((w.alloc (.cells #[.int .i64 17, .int .i64 a, .int .i64 b, .int .i64 n] 42))) [.blk w.heap.size #[.int .i64 17, .int .i64 a, .int .i64 b, .int .i64 n] 42] := ((St.start w (Nat.le_refl _)).new' #[.int .i64 17, .int .i64 a, .int .i64 b, .int .i64 n] 42 (w.heap.size) (by simp)).1
    have HT := Lib.hid T0
    have hz : w.heap.size + 1 ≤ (w.alloc (.cells #[.int .i64 17, .int .i64 a, .int .i64 b, .int .i64 n] 42)).heap.size := by simp
    clear T0
    replace Hr : Hid (RdSl iE ((w.alloc (.cells #[.int .i64 17, .int .i64 a, .int .i64 b, .int .i64 n] 42))) (Fr 0 [.blk w.heap.size #[.int .i64 17, .int .i64 a, .int .i64 b, .int .i64 n] 42]) (.slice (some ⟨fb, fo, none⟩) 8 c) k) := Lib.hid (Hr.out.pool (by decide) HT.out)
    go_enter Tryd.func126, Tryd.ntmps126
    go_upto_region 1 with fail
    generalize (w.alloc (.cells #[.int .i64 17, .int .i64 a, .int .i64 b, .int .i64 n] 42)) = W36 at *
    go_wp2_with (at_builtin; go_loud (refine wpList_append_any _ rfl (.const (.slice none 0 0)) (.tmp 6) _ rfl W36.heap.size 3 i0 _ 1 8 Tryd.underlying55 hi0 hz0 hz1 hz2 rfl (by omega) (.slice none 0 0) 0 [] rfl ⟨by simp, .inl ⟨rfl, rfl⟩⟩ (some ⟨fb, fo, none⟩) 8 c (k.map (.int .i64)) rfl (by simpa using Hk.out) (rdI_cells Hr.out) (fun h => by cases h) (fun u hu => by obtain ⟨x, _, rfl⟩ := List.mem_map.1 hu; rfl) (by unfold maxLen; omega) (by omega) (Nat.le_refl _) ?next))
    case next =>
      intro v1 w1 hown hg
      obtain ⟨A1, c1, rfl⟩ := own_form hown
      obtain ⟨go, rfl, hgo⟩ := own_posA hown (by omega)
      obtain ⟨T', K'⟩ := HT.out.ownRow ((Below.refl _ _).grown hg (Nat.le_refl _) (fun k hk => by cases hk)) hown (m := w.heap.size) (by omega)
      replace T' : St w.heap.size w w1 [.row w.heap.size 3 1 (.slice (some ⟨go, 0, none⟩) 8 c1) 8 (k.map (.int .i64)), .blk w.heap.size #[.int .i64 17, .int .i64 a, .int .i64 b, .int .i64 n] 42] := T'
      replace K' : Keeps W36 [.blk w.heap.size #[.int .i64 17, .int .i64 a, .int .i64 b, .int .i64 n] 42] w1 [.row w.heap.size 3 1 (.slice (some ⟨go, 0, none⟩) 8 c1) 8 (k.map (.int .i64)), .blk w.heap.size #[.int .i64 17, .int .i64 a, .int .i64 b, .int .i64 n] 42] := K'
      replace HT := Lib.hid T'
      replace Hr := Lib.hid (Hr.out.move (by decide) K')
      replace hz : w.heap.size + 1 ≤ w1.heap.size := Nat.le_trans hz hg.size
      clear T' K' hown hg hgo
      obtain ⟨r_i, q_i, -⟩ := HT.out.rules
      have z_i : w.heap.size < w1.heap.size := (HT.out.in_ 1 rfl rfl).2
      have f_o := fun i => HT.out.rowFree 0 rfl i
      obtain ⟨u_b, hu_b⟩ : ∃ x, k[b]? = some x := ⟨_, List.getElem?_eq_getElem (by have := Hk.out; simp; omega)⟩
      have c_b : w1.cell? ⟨go, b, none⟩ = some (.int .i64 u_b) := HT.out.iCell 0 rfl hu_b
      clear hu_b
      go_upto_region 30 with fail
      clear r_i q_i z_i f_o c_b
      obtain ⟨T', K'⟩ := HT.out.iPut 0 b 0 rfl
      simp only [List.set_cons_zero] at T' K'
      replace HT := Lib.hid T'
      replace Hr := Lib.hid (Hr.out.move (by decide) K')
      clear T' K'
      replace hz : w.heap.size + 1 ≤ ((w1.setCell ⟨go, b, none⟩ (.int .i64 0))).heap.size := by simpa using hz
      generalize (w1.setCell ⟨go, b, none⟩ (.int .i64 0)) = W37 at *
      obtain ⟨r_i, q_i, -⟩ := HT.out.rules
      have z_i : w.heap.size < W37.heap.size := (HT.out.in_ 1 rfl rfl).2
      have f_o := fun i => HT.out.rowFree 0 rfl i
      obtain ⟨u_a, hu_a⟩ : ∃ x, (k.set b 0)[a]? = some x := ⟨_, List.getElem?_eq_getElem (by have := Hk.out; simp; omega)⟩
      have c_a : W37.cell? ⟨go, a, none⟩ = some (.int .i64 u_a) := HT.out.iCell 0 rfl hu_a
      clear hu_a
      go_upto_region 31 with fail
      clear r_i q_i z_i f_o c_a
      obtain ⟨T', K'⟩ := HT.out.iPut 0 a 1 rfl
      simp only [List.set_cons_zero] at T' K'
      replace HT := Lib.hid T'
      replace Hr := Lib.hid (Hr.out.move (by decide) K')
      clear T' K'
      replace hz : w.heap.size + 1 ≤ ((W37.setCell ⟨go, a, none⟩ (.int .i64 1))).heap.size := by simpa using hz
      generalize (W37.setCell ⟨go, a, none⟩ (.int .i64 1)) = W38 at *
      go_wp2_with fail
      go_ret
      have hfin : laterP k ⟨17, a, b, n⟩ = ((k.set b 0).set a 1) := later_spawn
      rw [hfin] at HLn ⊢
      have hl8 := HLn.out
      show NewI w _ (.returned (.slice (some ⟨go, 0, none⟩) 8 c1)) _
      have hO := HT.out.outI (n := w.heap.size) 0 (xs := ((k.set b 0).set a 1)) rfl HLn.out.symm (by rw [HLn.out]; omega) (Nat.le_refl _)
      exact ⟨_, c1, by rw [hl8], by rw [hl8]; exact hO.from_ (by decide), HT.out.below⟩
  · have T0 : St w.heap.size w ((w.alloc (.cells #[.int .i64 18, .int .i64 a, .int .i64 b, .int .i64 n] 42))) [.blk w.heap.size #[.int .i64 18, .int .i64 a, .int .i64 b, .int .i64 n] 42] := ((St.start w (Nat.le_refl _)).new' #[.int .i64 18, .int .i64 a, .int .i64 b, .int .i64 n] 42 (w.heap.size) (by simp)).1
    have HT := Lib.hid T0
    have hz : w.heap.size + 1 ≤ (w.alloc (.cells #[.int .i64 18, .int .i64 a, .int .i64 b, .int .i64 n] 42)).heap.size := by simp
    clear T0
    replace Hr : Hid (RdSl iE ((w.alloc (.cells #[.int .i64 18, .int .i64 a, .int .i64 b, .int .i64 n] 42))) (Fr 0 [.blk w.heap.size #[.int .i64 18, .int .i64 a, .int .i64 b, .int .i64 n] 42]) (.slice (some ⟨fb, fo, none⟩) 8 c) k) := Lib.hid (Hr.out.pool (by decide) HT.out)
    go_enter Tryd.func126, Tryd.ntmps126
    go_upto_region 1 with fail
    generalize (w.alloc (.cells #[.int .i64 18, .int .i64 a, .int .i64 b, .int .i64 n] 42)) = W39 at *
    go_wp2_with (at_builtin; go_loud (refine wpList_append_any _ rfl (.const (.slice none 0 0)) (.tmp 6) _ rfl W39.heap.size 3 i0 _ 1 8 Tryd.underlying55 hi0 hz0 hz1 hz2 rfl (by omega) (.slice none 0 0) 0 [] rfl ⟨by simp, .inl ⟨rfl, rfl⟩⟩ (some ⟨fb, fo, none⟩) 8 c (k.map (.int .i64)) rfl (by simpa using Hk.out) (rdI_cells Hr.out) (fun h => by cases h) (fun u hu => by obtain ⟨x, _, rfl⟩ := List.mem_map.1 hu; rfl) (by unfold maxLen; omega) (by omega) (Nat.le_refl _) ?next))
    case next =>
      intro v1 w1 hown hg
      obtain ⟨A1, c1, rfl⟩ := own_form hown
      obtain ⟨go, rfl, hgo⟩ := own_posA hown (by omega)
      obtain ⟨T', K'⟩ := HT.out.ownRow ((Below.refl _ _).grown hg (Nat.le_refl _) (fun k hk => by cases hk)) hown (m := w.heap.size) (by omega)
      replace T' : St w.heap.size w w1 [.row w.heap.size 3 1 (.slice (some ⟨go, 0, none⟩) 8 c1) 8 (k.map (.int .i64)), .blk w.heap.size #[.int .i64 18, .int .i64 a, .int .i64 b, .int .i64 n] 42] := T'
      replace K' : Keeps W39 [.blk w.heap.size #[.int .i64 18, .int .i64 a, .int .i64 b, .int .i64 n] 42] w1 [.row w.heap.size 3 1 (.slice (some ⟨go, 0, none⟩) 8 c1) 8 (k.map (.int .i64)), .blk w.heap.size #[.int .i64 18, .int .i64 a, .int .i64 b, .int .i64 n] 42] := K'
      replace HT := Lib.hid T'
      replace Hr := Lib.hid (Hr.out.move (by decide) K')
      replace hz : w.heap.size + 1 ≤ w1.heap.size := Nat.le_trans hz hg.size
      clear T' K' hown hg hgo
      obtain ⟨r_i, q_i, -⟩ := HT.out.rules
      have z_i : w.heap.size < w1.heap.size := (HT.out.in_ 1 rfl rfl).2
      have f_o := fun i => HT.out.rowFree 0 rfl i
      obtain ⟨u_a, hu_a⟩ : ∃ x, k[a]? = some x := ⟨_, List.getElem?_eq_getElem (by have := Hk.out; simp; omega)⟩
      have c_a : w1.cell? ⟨go, a, none⟩ = some (.int .i64 u_a) := HT.out.iCell 0 rfl hu_a
      clear hu_a
      go_upto_region 31 with fail
      clear r_i q_i z_i f_o c_a
      obtain ⟨T', K'⟩ := HT.out.iPut 0 a 0 rfl
      simp only [List.set_cons_zero] at T' K'
      replace HT := Lib.hid T'
      replace Hr := Lib.hid (Hr.out.move (by decide) K')
      clear T' K'
      replace hz : w.heap.size + 1 ≤ ((w1.setCell ⟨go, a, none⟩ (.int .i64 0))).heap.size := by simpa using hz
      generalize (w1.setCell ⟨go, a, none⟩ (.int .i64 0)) = W40 at *
      go_wp2_with fail
      go_ret
      have hfin : laterP k ⟨18, a, b, n⟩ = (k.set a 0) := later_gone (by decide)
      rw [hfin] at HLn ⊢
      have hl8 := HLn.out
      show NewI w _ (.returned (.slice (some ⟨go, 0, none⟩) 8 c1)) _
      have hO := HT.out.outI (n := w.heap.size) 0 (xs := (k.set a 0)) rfl HLn.out.symm (by rw [HLn.out]; omega) (Nat.le_refl _)
      exact ⟨_, c1, by rw [hl8], by rw [hl8]; exact hO.from_ (by decide), HT.out.below⟩
  · have T0 : St w.heap.size w ((w.alloc (.cells #[.int .i64 19, .int .i64 a, .int .i64 b, .int .i64 n] 42))) [.blk w.heap.size #[.int .i64 19, .int .i64 a, .int .i64 b, .int .i64 n] 42] := ((St.start w (Nat.le_refl _)).new' #[.int .i64 19, .int .i64 a, .int .i64 b, .int .i64 n] 42 (w.heap.size) (by simp)).1
    have HT := Lib.hid T0
    have hz : w.heap.size + 1 ≤ (w.alloc (.cells #[.int .i64 19, .int .i64 a, .int .i64 b, .int .i64 n] 42)).heap.size := by simp
    clear T0
    replace Hr : Hid (RdSl iE ((w.alloc (.cells #[.int .i64 19, .int .i64 a, .int .i64 b, .int .i64 n] 42))) (Fr 0 [.blk w.heap.size #[.int .i64 19, .int .i64 a, .int .i64 b, .int .i64 n] 42]) (.slice (some ⟨fb, fo, none⟩) 8 c) k) := Lib.hid (Hr.out.pool (by decide) HT.out)
    go_enter Tryd.func126, Tryd.ntmps126
    go_upto_region 1 with fail
    generalize (w.alloc (.cells #[.int .i64 19, .int .i64 a, .int .i64 b, .int .i64 n] 42)) = W41 at *
    go_wp2_with (at_builtin; go_loud (refine wpList_append_any _ rfl (.const (.slice none 0 0)) (.tmp 6) _ rfl W41.heap.size 3 i0 _ 1 8 Tryd.underlying55 hi0 hz0 hz1 hz2 rfl (by omega) (.slice none 0 0) 0 [] rfl ⟨by simp, .inl ⟨rfl, rfl⟩⟩ (some ⟨fb, fo, none⟩) 8 c (k.map (.int .i64)) rfl (by simpa using Hk.out) (rdI_cells Hr.out) (fun h => by cases h) (fun u hu => by obtain ⟨x, _, rfl⟩ := List.mem_map.1 hu; rfl) (by unfold maxLen; omega) (by omega) (Nat.le_refl _) ?next))
    case next =>
      intro v1 w1 hown hg
      obtain ⟨A1, c1, rfl⟩ := own_form hown
      obtain ⟨go, rfl, hgo⟩ := own_posA hown (by omega)
      obtain ⟨T', K'⟩ := HT.out.ownRow ((Below.refl _ _).grown hg (Nat.le_refl _) (fun k hk => by cases hk)) hown (m := w.heap.size) (by omega)
      replace T' : St w.heap.size w w1 [.row w.heap.size 3 1 (.slice (some ⟨go, 0, none⟩) 8 c1) 8 (k.map (.int .i64)), .blk w.heap.size #[.int .i64 19, .int .i64 a, .int .i64 b, .int .i64 n] 42] := T'
      replace K' : Keeps W41 [.blk w.heap.size #[.int .i64 19, .int .i64 a, .int .i64 b, .int .i64 n] 42] w1 [.row w.heap.size 3 1 (.slice (some ⟨go, 0, none⟩) 8 c1) 8 (k.map (.int .i64)), .blk w.heap.size #[.int .i64 19, .int .i64 a, .int .i64 b, .int .i64 n] 42] := K'
      replace HT := Lib.hid T'
      replace Hr := Lib.hid (Hr.out.move (by decide) K')
      replace hz : w.heap.size + 1 ≤ w1.heap.size := Nat.le_trans hz hg.size
      clear T' K' hown hg hgo
      obtain ⟨r_i, q_i, -⟩ := HT.out.rules
      have z_i : w.heap.size < w1.heap.size := (HT.out.in_ 1 rfl rfl).2
      go_upto_region 31 with fail
      clear r_i q_i z_i
      go_wp2_with fail
      go_ret
      have hfin : laterP k ⟨19, a, b, n⟩ = k := later_no (by decide)
      rw [hfin] at HLn ⊢
      have hl8 := HLn.out
      show NewI w _ (.returned (.slice (some ⟨go, 0, none⟩) 8 c1)) _
      have hO := HT.out.outI (n := w.heap.size) 0 (xs := k) rfl HLn.out.symm (by rw [HLn.out]; omega) (Nat.le_refl _)
      exact ⟨_, c1, by rw [hl8], by rw [hl8]; exact hO.from_ (by decide), HT.out.below⟩
end
section
open Go.RowKit
set_option maxHeartbeats 2000000 in
theorem waysOn_any (t op a b n : Int) (ho : 0 ≤ op ∧ op ≤ 19) (ht : 0 ≤ t ∧ t < 1000) (hn : op = 5 ∨ op = 6 → -1000 ≤ n ∧ n ≤ 1000) (w : World) :
    Calls Tryd.prog 127 #[.int .i64 t, .agg #[.int .i64 op, .int .i64 a, .int .i64 b, .int .i64 n]] w (WaysD w (waysP t ⟨op, a, b, n⟩)) := by
  have hB : Below w.heap.size w (w.alloc (.cells #[.int .i64 op, .int .i64 a, .int .i64 b, .int .i64 n] 42)) := (Below.refl _ _).alloc (Nat.le_refl _) _
  have HL := Lib.hid ((Locs.nil (w := w)).new (cs := #[.int .i64 op, .int .i64 a, .int .i64 b, .int .i64 n]) (t := 42) rfl)
  have hz : (w.alloc (.cells #[.int .i64 op, .int .i64 a, .int .i64 b, .int .i64 n] 42)).heap.size = w.heap.size + 1 := by simp
  by_cases h0 : op = 0 ∨ op = 19
  · have hw : waysP t ⟨op, a, b, n⟩ = [] := if_pos h0
    rw [hw]
    clear hw hn
    rcases h0 with rfl | rfl
    all_goals
      go_enter Tryd.func127, Tryd.ntmps127
      go_wp2
      go_ret
      exact ways_nil hB
  · by_cases h6 : op = 6
    · subst h6
      have hw : waysP t ⟨6, a, b, n⟩ = [t + n] := rfl
      obtain ⟨n1, n2⟩ := hn (.inr rfl)
      rw [hw]
      clear hw hn h0
      go_enter Tryd.func127, Tryd.ntmps127
      go_wp2
      go_ret
      exact ⟨_, _, rfl, rd_i1 (blk_at (by simp)) (by simp), hB.alloc (by simp) _⟩
    · by_cases h5 : op = 5
      · subst h5
        have hw : waysP t ⟨5, a, b, n⟩ = [t + 1, t + n] := rfl
        obtain ⟨n1, n2⟩ := hn (.inl rfl)
        rw [hw]
        clear hw hn h0
        go_enter Tryd.func127, Tryd.ntmps127
        go_wp2
        go_ret
        exact ⟨_, _, rfl, rd_i2 (blk_at (by simp)) (by simp), hB.alloc (by simp) _⟩
      · have hw : waysP t ⟨op, a, b, n⟩ = [t + 1] := by
          show (if op = 0 ∨ op = 19 then _ else if op = 6 then _ else if op = 5 then _ else _) = _
          rw [if_neg h0, if_neg h6, if_neg h5]
        rw [hw]
        have b0 : (op == 0) = false := by simp; omega
        have b1 : (op == 19) = false := by simp; omega
        have b2 : (op == 6) = false := by simpa using h6
        have b3 : (op == 5) = false := by simpa using h5
        clear hw hn h0 h6 h5
        go_enter Tryd.func127, Tryd.ntmps127
        go_wp2
        go_ret
        exact ⟨_, _, rfl, rd_i1 (blk_at (by simp)) (by simp), hB.alloc (by simp) _⟩
set_option maxRecDepth 100000 in
set_option maxHeartbeats 4000000 in
theorem mayBeDone_any (S : Nat → Prop) (A : Option Addr) (c : Nat) (k : List Int) (hk : k.length = 8) (op n : Int) (a b : Nat) (ho : 0 ≤ op ∧ op ≤ 19) (ha : a < 8) (hb : b < 8) (w : World) (hr : RdSl iE w S (.slice A k.length c) k) :
    Calls Tryd.prog 106 #[.slice A k.length c, .agg #[.int .i64 op, .int .i64 a, .int .i64 b, .int .i64 n]] w fun e w' => e = .returned (.bool (mayB k ⟨op, a, b, n⟩)) ∧ Below w.heap.size w w' := by
  rw [mayB_O]
  have hx0 := at8_at (k := k) (a := 0) (by omega)
  have hxa := at8_at (k := k) (a := a) (by omega)
  have hxb := at8_at (k := k) (a := b) (by omega)
  have a1 : (0 : Int) ≤ (a : Int) := by omega
  have a2 : (a : Int) < 8 := by omega
  have b1 : (0 : Int) ≤ (b : Int) := by omega
  have b2 : (b : Int) < 8 := by omega
  obtain ⟨-, l1, l2, l3⟩ := hr.lims
  obtain ⟨fb, fo, rfl, _, hfb, _⟩ := hr.at_i hxa
  have c0 := rd_iat hr hx0
  rw [Nat.add_zero] at c0
  have ca := rd_iat hr hxa
  have cb := rd_iat hr hxb
  rw [hk] at l1 ⊢
  show Calls _ _ _ _ (fun e w' => e = .returned (.bool (mayO (at8 k ((0 : Nat) : Int)) (at8 k (a : Int)) (at8 k (b : Int)) op)) ∧ Below w.heap.size w w')
  generalize at8 k ((0 : Nat) : Int) = x0 at *
  generalize at8 k (a : Int) = xa at *
  generalize at8 k (b : Int) = xb at *
  clear hx0 hxa hxb hr l3 hk
  have hm : ∃ m, mayO x0 xa xb op = m := ⟨_, rfl⟩
  obtain ⟨m, hm⟩ := hm
  rw [hm]
  have hB0 : ∀ o : Int, Below w.heap.size w (w.alloc (.cells #[.int .i64 o, .int .i64 a, .int .i64 b, .int .i64 n] 42)) := fun o => (Below.refl _ _).alloc (Nat.le_refl _) _
  rcases op_cases (show ¬ (op < 0 ∨ 19 < op) by omega) with rfl | rfl | rfl | rfl | rfl | rfl | rfl | rfl | rfl | rfl | rfl | rfl | rfl | rfl | rfl | rfl | rfl | rfl | rfl | rfl
  all_goals
    simp only [mayO, reduceIte, Int.reduceEq, or_true, or_false] at hm
    have Hm := Lib.hid hm
    clear hm
    go_enter Tryd.func106, Tryd.ntmps106
    go_wp2_with (refine (isObject_any _ _).mono ?_; rintro e w' ⟨rfl, rfl⟩)
    all_goals
      go_ret
      refine ⟨ret_bool ?_, hB0 _⟩
      first | exact Hm.out | (rw [← Hm.out]; done) | (rw [← Hm.out]; simp_all; done)
set_option maxHeartbeats 2000000 in
theorem sameKnown_any (S T : Nat → Prop) (A B : Option Addr) (c d : Nat) (k l : List Int) (hk : k.length = 8) (hl : l.length = 8) (w : World) (hr : RdSl iE w S (.slice A k.length c) k) (hq : RdSl iE w T (.slice B l.length d) l) (r : Bool) (hR : decide (k = l) = r) :
    Calls Tryd.prog 129 #[.slice A k.length c, .slice B l.length d] w fun e w' => e = .returned (.bool r) ∧ ∃ q, w' = w.drewN q := by
  obtain ⟨-, l1, l2, l3⟩ := hr.lims
  obtain ⟨-, m1, m2, m3⟩ := hq.lims
  have Hr := Lib.hid hr
  have Hq := Lib.hid hq
  have HR := Lib.hid hR
  clear hr hq l3 m3 hR
  go_enter Tryd.func129, Tryd.ntmps129
  go_wp2
  go_loopw [5] (fun i wr => ∃ j : Nat, i = .int .i64 j ∧ j ≤ 8 ∧ (∀ t, t < j → k[t]? = l[t]?) ∧ ∃ q, wr = w.drewN q) (fun i _ => 8 - (intOf i).toNat)
  case atStart => exact ⟨0, rfl, by omega, fun t h => by omega, 0, rfl⟩
  case round =>
    obtain ⟨j, rfl, hj, hst, q, rfl⟩ := hrel
    by_cases hlt : j < 8
    · obtain ⟨x, hx⟩ : ∃ x, k[j]? = some x := ⟨_, List.getElem?_eq_getElem (by omega)⟩
      obtain ⟨y, hy⟩ : ∃ y, l[j]? = some y := ⟨_, List.getElem?_eq_getElem (by omega)⟩
      obtain ⟨b1, o1, rfl, _, _, y0⟩ := Hr.out.at_i hx
      obtain ⟨b2, o2, rfl, _, _, z0⟩ := Hq.out.at_i hy
      have i1 : (0 : Int) ≤ (j : Int) := by omega
      have i2 : (j : Int) < (k.length : Int) := by omega
      have i3 : (j : Int) < (l.length : Int) := by omega
      have i4 : (j : Int) < 8 := by omega
      have Hx := Lib.hid hx
      have Hy := Lib.hid hy
      have Hst := Lib.hid hst
      clear hx hy hst
      rw [hk, hl] at *
      by_cases hxy : x = y
      · have hb : (x != y) = false := by simpa using hxy
        have Hxy := Lib.hid hxy
        clear hxy
        go_wp2
        go_quiet (fail)
        go_wp2
        go_roundw
        case rel => exact ⟨j + 1, by go_num, by omega, fun t ht => by
          by_cases h : t = j
          · rw [h, Hx.out, Hy.out, Hxy.out]
          · exact Hst.out t (by omega), _, rfl⟩
        case measure => simp [intOf]; omega
      · have hb : (x != y) = true := by simpa using hxy
        have hne : k ≠ l := fun e => by
          have := Hx.out
          rw [e, Hy.out] at this
          exact hxy (Option.some.inj this).symm
        have hr2 := HR.out
        rw [decide_eq_false hne] at hr2
        subst hr2
        clear hne hxy
        go_wp2
        go_quiet (fail)
        go_wp2
        go_ret
        exact ⟨rfl, _, World.drewN_drewN _ _ _⟩
    · have he : k = l := List.ext_getElem? fun t => by
        by_cases h : t < j
        · exact hst t h
        · rw [List.getElem?_eq_none (by omega), List.getElem?_eq_none (by omega)]
      have hr2 := HR.out
      rw [decide_eq_true he] at hr2
      subst hr2
      have Hj := Lib.hid hj
      have i4 : ¬ (j : Int) < 8 := by omega
      clear he hst hj
      go_wp2
      go_ret
      exact ⟨rfl, _, rfl⟩
end
end Go.Proofs.YtabcjdalifhpdaaDoor
