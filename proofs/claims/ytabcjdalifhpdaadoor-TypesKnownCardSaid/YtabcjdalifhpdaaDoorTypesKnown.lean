/- THE STATEMENT 'TypesKnown': for every input the call returns true, and each argument reads behind it as it did: proved out of the walks. Condition: the row's own: the table of operators reads as the program's text lays it, which the card ties. -/
import Derived.Test.YtabcjdalifhpdaaDoorKProg
import Derived.Test.YtabcjdalifhpdaaDoorCloneN
import Derived.Test.YtabcjdalifhpdaaDoorTypes
import Derived.Test.YtabcjdalifhpdaaDoorFacts
import Derived.Test.YtabcjdalifhpdaaDoorLaid
import Derived.Test.YtabcjdalifhpdaaDoorTie
import Derived.Test.YtabcjdalifhpdaaDoorCards
import Derived.SevenTiedAt
set_option maxRecDepth 100000
namespace Go.Proofs.YtabcjdalifhpdaaDoor.lawTypesKnown
open Go.ChangeShapes Go.WideShapes Go.ChangeAt Go.RowKit
set_option linter.unusedVariables false

def tkL : List Ins := [⟨7, 2, 0, 2⟩, ⟨7, 3, 0, 1⟩, ⟨11, 2, 3, 0⟩, ⟨10, 4, 2, 0⟩, ⟨1, 5, 0, 1⟩, ⟨13, 1, 5, 0⟩, ⟨0, 0, 0, 0⟩]
def tkO : List Ins := [⟨13, 2, 5, 0⟩, ⟨13, 1, 5, 0⟩, ⟨11, 2, 3, 0⟩, ⟨15, 2, 0, 0⟩, ⟨8, 0, 5, 0⟩, ⟨17, 6, 4, 0⟩, ⟨12, 6, 7, 0⟩, ⟨14, 4, 6, 0⟩]
def tkT : List (List Int) := [[3, 3, 0, 0, 0, 0, 0, 0], [3, 3, 3, 0, 0, 0, 0, 0], [3, 3, 3, 3, 0, 0, 0, 0], [3, 3, 3, 0, 0, 0, 0, 0], [3, 3, 2, 0, 2, 0, 0, 0], [3, 3, 2, 0, 2, 1, 0, 0], [3, 0, 2, 0, 2, 1, 0, 0]]
theorem badL_exec {l : List Ins} {n : Nat} {b : Option Nat} (h : (runFlow l n (start8 l.length)).map (badR l) = some b) : badL l = b := by
  cases hr : runFlow l n (start8 l.length) with
  | none => rw [hr] at h; cases h
  | some r => rw [hr] at h; injection h with h; rw [badL_run (flowL_run hr)]; exact h
theorem tk_flow : flowL tkL = tkT := flowL_run (n := 5) rfl
theorem tk_types : typesP [tkL] 0 = (tkT, 0) := by
  have := typesP_ok (ps := [tkL]) (k := 0) (l := tkL) rfl rfl
  rw [tk_flow] at this
  exact this
theorem tk_ver : verP [tkL] = (0, 0, 0) := verP_ok rfl (fun l hl => by
  simp at hl
  subst hl
  rw [badL_run tk_flow]
  rfl)
theorem tk_bad {q : Nat} (hq : q < 8) : ∃ x, tkO[q]? = some x ∧ verP [[doneI], tkL.take 6 ++ [x, doneI]] = (1, 6, 9) := by
  have key : ∀ x : Ins, progF [[doneI], tkL.take 6 ++ [x, doneI]] = 0 → badL (tkL.take 6 ++ [x, doneI]) = some 6 → verP [[doneI], tkL.take 6 ++ [x, doneI]] = (1, 6, 9) := fun x h1 h2 =>
    verP_no (n := 1) (i := 6) h1 rfl h2 (fun j l' hj hl => by
      obtain rfl : j = 0 := by omega
      simp at hl
      subst hl
      exact bad_done)
  match q, hq with
  | 0, _ => exact ⟨_, rfl, key _ rfl (badL_exec (n := 6) rfl)⟩
  | 1, _ => exact ⟨_, rfl, key _ rfl (badL_exec (n := 6) rfl)⟩
  | 2, _ => exact ⟨_, rfl, key _ rfl (badL_exec (n := 6) rfl)⟩
  | 3, _ => exact ⟨_, rfl, key _ rfl (badL_exec (n := 6) rfl)⟩
  | 4, _ => exact ⟨_, rfl, key _ rfl (badL_exec (n := 6) rfl)⟩
  | 5, _ => exact ⟨_, rfl, key _ rfl (badL_exec (n := 6) rfl)⟩
  | 6, _ => exact ⟨_, rfl, key _ rfl (badL_exec (n := 6) rfl)⟩
  | 7, _ => exact ⟨_, rfl, key _ rfl (badL_exec (n := 6) rfl)⟩
theorem RdSl.takeN {w : World} {S : Nat → Prop} {b o n c : Nat} {l : List Ins} (h : RdSl insE w S (.slice (some ⟨b, o, none⟩) n c) l) {k : Nat} (_hk : k ≤ l.length) : RdSl insE w S (.slice (some ⟨b, o, none⟩) (l.take k).length c) (l.take k) := by
  obtain ⟨A', c', hv, h1, h2, h3, h4⟩ := h
  cases hv
  have hle : (l.take k).length ≤ l.length := by rw [List.length_take]; exact Nat.min_le_right _ _
  refine ⟨_, _, rfl, by omega, h2, Nat.le_trans (Nat.mul_le_mul_right _ hle) h3, fun hne => ?_⟩
  have hne' : l ≠ [] := fun e => hne (by rw [e]; simp)
  obtain ⟨b', o', hb, hS, hi⟩ := h4 hne'
  cases hb
  refine ⟨b, o, rfl, hS, fun i x hx => hi i x ?_⟩
  rw [List.getElem?_take] at hx
  split at hx
  · exact hx
  · cases hx
set_option maxRecDepth 100000 in
set_option maxHeartbeats 16000000 in
theorem walk (w : World) (a : Int) (ha : -9223372036854775808 ≤ a ∧ a ≤ 9223372036854775807) (hu : UsesAt w) :
    Calls Tryd.prog 6 #[.int .i64 a] w fun e w' => e = .returned (.bool true) ∧ Below w.heap.size w w' := by
  have Hu := Lib.hid hu
  have hkl := pickN_lt a 8 (by omega)
  have Gk := Lib.hid (fun W => picked_any a 8 ha.1 ha.2 (by omega) (by omega) W)
  generalize pickN a 8 = kc at *
  obtain ⟨q, rfl⟩ := Int.eq_ofNat_of_zero_le hkl.1
  have hq : q < 8 := by omega
  have q1 : (0 : Int) ≤ (q : Int) := by omega
  have q2 : (q : Int) < 8 := by omega
  obtain ⟨x, hx, hbad⟩ := tk_bad hq
  have HX := Lib.hid hx
  have HB := Lib.hid hbad
  clear hu ha hkl hx hbad
  have T0 : St w.heap.size w w [] := St.start w (Nat.le_refl _)
  have HT := Lib.hid T0
  have hz : w.heap.size ≤ w.heap.size := by simp
  clear T0
  go_enter Tryd.func6, Tryd.ntmps6
  go_upto_region 2 with fail
  obtain ⟨T', K'⟩ := HT.out.new' #[.int .i64 7, .int .i64 2, .int .i64 0, .int .i64 2, .int .i64 7, .int .i64 3, .int .i64 0, .int .i64 1, .int .i64 11, .int .i64 2, .int .i64 3, .int .i64 0, .int .i64 10, .int .i64 4, .int .i64 2, .int .i64 0, .int .i64 1, .int .i64 5, .int .i64 0, .int .i64 1, .int .i64 13, .int .i64 1, .int .i64 5, .int .i64 0, .int .i64 0, .int .i64 0, .int .i64 0, .int .i64 0] 42 w.heap.size (by first | (simp; done) | rfl)
  replace HT := Lib.hid T'
  clear T' K'
  replace hz : w.heap.size ≤ ((w.alloc (.cells #[.int .i64 7, .int .i64 2, .int .i64 0, .int .i64 2, .int .i64 7, .int .i64 3, .int .i64 0, .int .i64 1, .int .i64 11, .int .i64 2, .int .i64 3, .int .i64 0, .int .i64 10, .int .i64 4, .int .i64 2, .int .i64 0, .int .i64 1, .int .i64 5, .int .i64 0, .int .i64 1, .int .i64 13, .int .i64 1, .int .i64 5, .int .i64 0, .int .i64 0, .int .i64 0, .int .i64 0, .int .i64 0] 42))).heap.size := Nat.le_trans hz (by simp)
  generalize (w.alloc (.cells #[.int .i64 7, .int .i64 2, .int .i64 0, .int .i64 2, .int .i64 7, .int .i64 3, .int .i64 0, .int .i64 1, .int .i64 11, .int .i64 2, .int .i64 3, .int .i64 0, .int .i64 10, .int .i64 4, .int .i64 2, .int .i64 0, .int .i64 1, .int .i64 5, .int .i64 0, .int .i64 1, .int .i64 13, .int .i64 1, .int .i64 5, .int .i64 0, .int .i64 0, .int .i64 0, .int .i64 0, .int .i64 0] 42)) = W1 at *
  obtain ⟨r_l, q_l, -⟩ := HT.out.rules
  have z_l : w.heap.size < W1.heap.size := (HT.out.in_ 0 rfl rfl).2
  go_wp2_with fail
  obtain ⟨T', K'⟩ := HT.out.new' #[.slice (some ⟨w.heap.size, 0, none⟩) 7 7] 43 W1.heap.size (by first | (simp; done) | rfl)
  replace HT := Lib.hid T'
  clear T' K'
  replace hz : w.heap.size ≤ ((W1.alloc (.cells #[.slice (some ⟨w.heap.size, 0, none⟩) 7 7] 43))).heap.size := Nat.le_trans hz (by simp)
  clear r_l q_l z_l
  generalize (W1.alloc (.cells #[.slice (some ⟨w.heap.size, 0, none⟩) 7 7] 43)) = W2 at *
  obtain ⟨r_m, q_m, r_l, q_l, -⟩ := HT.out.rules
  have z_m : W1.heap.size < W2.heap.size := (HT.out.in_ 0 rfl rfl).2
  have z_l : w.heap.size < W2.heap.size := (HT.out.in_ 1 rfl rfl).2
  have rr0 : RdSl insE W2 (fun _ => True) (.slice (some ⟨w.heap.size, 0, none⟩) 7 7) tkL := rd_lit (E := insE) (css := ncs tkL) (HT.out.heap 1 rfl) trivial (ncs_held tkL) rfl (by show 7 * 32 ≤ 140737488355328; decide) (by show 7 ≤ maxLen; decide) 7 rfl
  have R3 := Lib.hid (rd_lit (E := pgE) (w := W2) (S := fun _ => True) (css := [[.slice (some ⟨w.heap.size, 0, none⟩) 7 7]]) (xs := [tkL]) (HT.out.heap 0 rfl) trivial (Held.cons rfl ⟨_, rfl, rr0⟩ Held.nil) rfl (by show 1 * 24 ≤ 140737488355328; decide) (by show 1 ≤ maxLen; decide) 1 rfl)
  clear rr0
  have GD := types_any (fun _ => True) (some ⟨W1.heap.size, 0, none⟩) 1 [tkL] 0 W2 (Hu.out.below HT.out.below) R3.out
  unfold TypesD at GD
  rw [tk_types] at GD
  dsimp only [List.length] at GD
  have HGD := Lib.hid GD
  clear GD R3
  refine (HGD.out).mono ?_
  rintro en W3 ⟨A5, d5, rfl, hrt, hb⟩
  clear r_m q_m r_l q_l z_m z_l
  have Hfresh := Lib.hid (HT.out)
  have hzo : w.heap.size ≤ W2.heap.size := by omega
  obtain ⟨T', K'⟩ := HT.out.call hb
  replace HT := Lib.hid T'
  clear T' K'
  replace hz : w.heap.size ≤ W3.heap.size := Nat.le_trans hz hb.size
  clear hb
  have Ht : Hid (RdSl liE W3 (Fr w.heap.size [.blk W1.heap.size #[.slice (some ⟨w.heap.size, 0, none⟩) 7 7] 43, .blk w.heap.size #[.int .i64 7, .int .i64 2, .int .i64 0, .int .i64 2, .int .i64 7, .int .i64 3, .int .i64 0, .int .i64 1, .int .i64 11, .int .i64 2, .int .i64 3, .int .i64 0, .int .i64 10, .int .i64 4, .int .i64 2, .int .i64 0, .int .i64 1, .int .i64 5, .int .i64 0, .int .i64 1, .int .i64 13, .int .i64 1, .int .i64 5, .int .i64 0, .int .i64 0, .int .i64 0, .int .i64 0, .int .i64 0] 42]) (.slice A5 7 d5) tkT) := Lib.hid (hrt.fresh (by first | decide | (show 0 < 1; omega)) Hfresh.out hzo)
  clear hrt
  clear Hfresh hzo
  obtain ⟨r_m, q_m, r_l, q_l, -⟩ := HT.out.rules
  have z_m : W1.heap.size < W3.heap.size := (HT.out.in_ 0 rfl rfl).2
  have z_l : w.heap.size < W3.heap.size := (HT.out.in_ 1 rfl rfl).2
  clear HGD
  obtain ⟨T', K'⟩ := HT.out.drop 0
  simp only [List.eraseIdx_cons_zero] at T' K'
  replace HT := Lib.hid T'
  replace Ht := Lib.hid (Ht.out.move (by decide) K')
  clear T' K'
  clear r_m q_m r_l q_l z_m z_l
  obtain ⟨r_l, q_l, -⟩ := HT.out.rules
  have z_l : w.heap.size < W3.heap.size := (HT.out.in_ 0 rfl rfl).2
  go_wp2_with fail
  obtain ⟨T', K'⟩ := HT.out.new' #[.slice (some ⟨w.heap.size, 0, none⟩) 7 7] 43 W3.heap.size (by first | (simp; done) | rfl)
  replace HT := Lib.hid T'
  replace Ht := Lib.hid (Ht.out.move (by decide) K')
  clear T' K'
  replace hz : w.heap.size ≤ ((W3.alloc (.cells #[.slice (some ⟨w.heap.size, 0, none⟩) 7 7] 43))).heap.size := Nat.le_trans hz (by simp)
  clear r_l q_l z_l
  generalize (W3.alloc (.cells #[.slice (some ⟨w.heap.size, 0, none⟩) 7 7] 43)) = W4 at *
  obtain ⟨r_m, q_m, r_l, q_l, -⟩ := HT.out.rules
  have z_m : W3.heap.size < W4.heap.size := (HT.out.in_ 0 rfl rfl).2
  have z_l : w.heap.size < W4.heap.size := (HT.out.in_ 1 rfl rfl).2
  have rr0 : RdSl insE W4 (fun _ => True) (.slice (some ⟨w.heap.size, 0, none⟩) 7 7) tkL := rd_lit (E := insE) (css := ncs tkL) (HT.out.heap 1 rfl) trivial (ncs_held tkL) rfl (by show 7 * 32 ≤ 140737488355328; decide) (by show 7 ≤ maxLen; decide) 7 rfl
  have R3 := Lib.hid (rd_lit (E := pgE) (w := W4) (S := fun _ => True) (css := [[.slice (some ⟨w.heap.size, 0, none⟩) 7 7]]) (xs := [tkL]) (HT.out.heap 0 rfl) trivial (Held.cons rfl ⟨_, rfl, rr0⟩ Held.nil) rfl (by show 1 * 24 ≤ 140737488355328; decide) (by show 1 ≤ maxLen; decide) 1 rfl)
  clear rr0
  have GD := verCheck_any (fun _ => True) (some ⟨W3.heap.size, 0, none⟩) 1 [tkL] W4 (Hu.out.below HT.out.below) R3.out
  rw [tk_ver] at GD
  dsimp only [List.length] at GD
  have HGD := Lib.hid GD
  clear GD R3
  refine (HGD.out).mono ?_
  rintro en W5 ⟨rfl, hb⟩
  clear r_m q_m r_l q_l z_m z_l
  obtain ⟨T', K'⟩ := HT.out.call hb
  replace HT := Lib.hid T'
  replace Ht := Lib.hid (Ht.out.move (by decide) K')
  clear T' K'
  replace hz : w.heap.size ≤ W5.heap.size := Nat.le_trans hz hb.size
  clear hb
  obtain ⟨r_m, q_m, r_l, q_l, -⟩ := HT.out.rules
  have z_m : W3.heap.size < W5.heap.size := (HT.out.in_ 0 rfl rfl).2
  have z_l : w.heap.size < W5.heap.size := (HT.out.in_ 1 rfl rfl).2
  clear HGD
  obtain ⟨T', K'⟩ := HT.out.drop 0
  simp only [List.eraseIdx_cons_zero] at T' K'
  replace HT := Lib.hid T'
  replace Ht := Lib.hid (Ht.out.move (by decide) K')
  clear T' K'
  clear r_m q_m r_l q_l z_m z_l
  obtain ⟨r_l, q_l, -⟩ := HT.out.rules
  have z_l : w.heap.size < W5.heap.size := (HT.out.in_ 0 rfl rfl).2
  go_upto_region 5 with fail
  obtain ⟨T', K'⟩ := HT.out.new' #[.int .i64 13, .int .i64 2, .int .i64 5, .int .i64 0, .int .i64 13, .int .i64 1, .int .i64 5, .int .i64 0, .int .i64 11, .int .i64 2, .int .i64 3, .int .i64 0, .int .i64 15, .int .i64 2, .int .i64 0, .int .i64 0, .int .i64 8, .int .i64 0, .int .i64 5, .int .i64 0, .int .i64 17, .int .i64 6, .int .i64 4, .int .i64 0, .int .i64 12, .int .i64 6, .int .i64 7, .int .i64 0, .int .i64 14, .int .i64 4, .int .i64 6, .int .i64 0] 42 W5.heap.size (by first | (simp; done) | rfl)
  replace HT := Lib.hid T'
  replace Ht := Lib.hid (Ht.out.move (by decide) K')
  clear T' K'
  replace hz : w.heap.size ≤ ((W5.alloc (.cells #[.int .i64 13, .int .i64 2, .int .i64 5, .int .i64 0, .int .i64 13, .int .i64 1, .int .i64 5, .int .i64 0, .int .i64 11, .int .i64 2, .int .i64 3, .int .i64 0, .int .i64 15, .int .i64 2, .int .i64 0, .int .i64 0, .int .i64 8, .int .i64 0, .int .i64 5, .int .i64 0, .int .i64 17, .int .i64 6, .int .i64 4, .int .i64 0, .int .i64 12, .int .i64 6, .int .i64 7, .int .i64 0, .int .i64 14, .int .i64 4, .int .i64 6, .int .i64 0] 42))).heap.size := Nat.le_trans hz (by simp)
  clear r_l q_l z_l
  generalize (W5.alloc (.cells #[.int .i64 13, .int .i64 2, .int .i64 5, .int .i64 0, .int .i64 13, .int .i64 1, .int .i64 5, .int .i64 0, .int .i64 11, .int .i64 2, .int .i64 3, .int .i64 0, .int .i64 15, .int .i64 2, .int .i64 0, .int .i64 0, .int .i64 8, .int .i64 0, .int .i64 5, .int .i64 0, .int .i64 17, .int .i64 6, .int .i64 4, .int .i64 0, .int .i64 12, .int .i64 6, .int .i64 7, .int .i64 0, .int .i64 14, .int .i64 4, .int .i64 6, .int .i64 0] 42)) = W6 at *
  obtain ⟨r_o, q_o, r_l, q_l, -⟩ := HT.out.rules
  have z_o : W5.heap.size < W6.heap.size := (HT.out.in_ 0 rfl rfl).2
  have z_l : w.heap.size < W6.heap.size := (HT.out.in_ 1 rfl rfl).2
  obtain ⟨xo, xa, xb, xn⟩ := x
  clear r_o q_o r_l q_l z_o z_l
  obtain ⟨-, -, r_l, q_l, -⟩ := HT.out.rules
  have z_l : w.heap.size < W6.heap.size := (HT.out.in_ 1 rfl rfl).2
  obtain ⟨eb, eo, e9, _, _, y0, y1, y2, y3⟩ := (rd_lit (E := insE) (w := W6) (S := fun _ => True) (css := ncs tkO) (HT.out.heap 0 rfl) trivial (ncs_held tkO) rfl (by show 8 * 32 ≤ 140737488355328; decide) (by show 8 ≤ maxLen; decide) 8 rfl).at_n HX.out
  injection e9 with e9
  injection e9 with e1 e2
  subst e1 e2
  dsimp only at y0 y1 y2 y3
  rw [Nat.zero_add] at y0 y1 y2 y3
  go_wp2_with fail
  refine wp_region_plan [.still [0, 1, 3, 4, 5, 6, 10, 11, 12], .loud 2 [3, 4, 5, 6, 10, 11, 12], .loud 7 [3, 10, 11, 12], .still [8, 9], .loud 13 [], .loud 14 [], .still [15]] (by kernel_rfl) (by kernel_rfl) ?_
  refine plan_still ?_
  simp only [pick, List.getElem?_toArray, List.getElem?_cons_succ, List.getElem?_cons_zero]
  repeat still_step
  refine wpStill_nil ?_
  refine plan_loud ?_
  simp only [pick, List.getElem?_toArray, List.getElem?_cons_succ, List.getElem?_cons_zero]
  go_wp2_with fail
  obtain ⟨T', K'⟩ := HT.out.drew'
  replace HT := Lib.hid T'
  replace Ht := Lib.hid (Ht.out.move (by decide) K')
  clear T' K'
  replace hz : w.heap.size ≤ W6.drew.heap.size := hz
  have hr6 := RdSl.takeN (k := 6) (rd_lit (E := insE) (w := W6.drew) (S := fun _ => True) (css := ncs tkL) (HT.out.heap 1 rfl) trivial (ncs_held tkL) rfl (by show 7 * 32 ≤ 140737488355328; decide) (by show 7 ≤ maxLen; decide) 7 rfl) (by decide)
  have hown0 := cloneN_any _ _ _ (tkL.take 6) W6.drew hr6
  have HC := Lib.hid hown0
  clear hown0 hr6
  refine HC.out.mono ?_
  rintro en Wc ⟨v9, rfl, hown, hb⟩
  obtain ⟨Ak, ck, rfl⟩ := hown.form
  obtain ⟨css9, hH9, hown9, -⟩ := hown
  obtain rfl := held_ncs hH9
  clear HC hH9 y0 y1 y2 y3
  clear r_l q_l z_l
  obtain ⟨T', K'⟩ := HT.out.ownRow hb hown9 (m := w.heap.size) HT.out.base
  replace HT := Lib.hid T'
  replace Ht := Lib.hid (Ht.out.move (by decide) K')
  clear T' K'
  replace HT : Hid (St w.heap.size w Wc [.row w.heap.size 42 4 (.slice Ak 6 ck) 6 (cat (ncs (tkL.take 6))), .blk W5.heap.size #[.int .i64 13, .int .i64 2, .int .i64 5, .int .i64 0, .int .i64 13, .int .i64 1, .int .i64 5, .int .i64 0, .int .i64 11, .int .i64 2, .int .i64 3, .int .i64 0, .int .i64 15, .int .i64 2, .int .i64 0, .int .i64 0, .int .i64 8, .int .i64 0, .int .i64 5, .int .i64 0, .int .i64 17, .int .i64 6, .int .i64 4, .int .i64 0, .int .i64 12, .int .i64 6, .int .i64 7, .int .i64 0, .int .i64 14, .int .i64 4, .int .i64 6, .int .i64 0] 42, .blk w.heap.size #[.int .i64 7, .int .i64 2, .int .i64 0, .int .i64 2, .int .i64 7, .int .i64 3, .int .i64 0, .int .i64 1, .int .i64 11, .int .i64 2, .int .i64 3, .int .i64 0, .int .i64 10, .int .i64 4, .int .i64 2, .int .i64 0, .int .i64 1, .int .i64 5, .int .i64 0, .int .i64 1, .int .i64 13, .int .i64 1, .int .i64 5, .int .i64 0, .int .i64 0, .int .i64 0, .int .i64 0, .int .i64 0] 42]) := HT
  replace Ht : Hid (RdSl liE Wc (Fr w.heap.size [.row w.heap.size 42 4 (.slice Ak 6 ck) 6 (cat (ncs (tkL.take 6))), .blk W5.heap.size #[.int .i64 13, .int .i64 2, .int .i64 5, .int .i64 0, .int .i64 13, .int .i64 1, .int .i64 5, .int .i64 0, .int .i64 11, .int .i64 2, .int .i64 3, .int .i64 0, .int .i64 15, .int .i64 2, .int .i64 0, .int .i64 0, .int .i64 8, .int .i64 0, .int .i64 5, .int .i64 0, .int .i64 17, .int .i64 6, .int .i64 4, .int .i64 0, .int .i64 12, .int .i64 6, .int .i64 7, .int .i64 0, .int .i64 14, .int .i64 4, .int .i64 6, .int .i64 0] 42, .blk w.heap.size #[.int .i64 7, .int .i64 2, .int .i64 0, .int .i64 2, .int .i64 7, .int .i64 3, .int .i64 0, .int .i64 1, .int .i64 11, .int .i64 2, .int .i64 3, .int .i64 0, .int .i64 10, .int .i64 4, .int .i64 2, .int .i64 0, .int .i64 1, .int .i64 5, .int .i64 0, .int .i64 1, .int .i64 13, .int .i64 1, .int .i64 5, .int .i64 0, .int .i64 0, .int .i64 0, .int .i64 0, .int .i64 0] 42]) (.slice A5 7 d5) tkT) := Ht
  replace hz : w.heap.size ≤ Wc.heap.size := Nat.le_trans hz hb.size
  clear hb hown9
  obtain ⟨-, -, r_l, q_l, -⟩ := HT.out.rules
  have z_l : w.heap.size < Wc.heap.size := (HT.out.in_ 2 rfl rfl).2
  obtain ⟨eb, eo, e9, _, _, y0, y1, y2, y3⟩ := (rd_lit (E := insE) (w := Wc) (S := fun _ => True) (css := ncs tkO) (HT.out.heap 1 rfl) trivial (ncs_held tkO) rfl (by show 8 * 32 ≤ 140737488355328; decide) (by show 8 ≤ maxLen; decide) 8 rfl).at_n HX.out
  injection e9 with e9
  injection e9 with e1 e2
  subst e1 e2
  dsimp only at y0 y1 y2 y3
  rw [Nat.zero_add] at y0 y1 y2 y3
  go_wp2_with fail
  refine ⟨?_, ?_⟩
  · simp only [Again, pick, List.getElem?_toArray, List.getElem?_cons_succ, List.getElem?_cons_zero]
    refine ⟨?_, ?_, ?_, ?_, ?_, ?_, ?_, trivial⟩
    all_goals (still_step; exact wpStill_nil rfl)
  refine plan_loud ?_
  simp only [pick, List.getElem?_toArray, List.getElem?_cons_succ, List.getElem?_cons_zero]
  go_wp2_with fail
  refine (Gk.out _).mono ?_
  rintro en W' ⟨rfl, rfl⟩
  go_wp2_with fail
  refine ⟨?_, ?_⟩
  · simp only [Again, pick, List.getElem?_toArray, List.getElem?_cons_succ, List.getElem?_cons_zero]
    refine ⟨?_, ?_, ?_, ?_, trivial⟩
    all_goals (still_step; exact wpStill_nil rfl)
  refine plan_still ?_
  simp only [pick, List.getElem?_toArray, List.getElem?_cons_succ, List.getElem?_cons_zero]
  repeat still_step
  refine wpStill_nil ?_
  refine plan_loud ?_
  simp only [pick, List.getElem?_toArray, List.getElem?_cons_succ, List.getElem?_cons_zero]
  go_wp2_with fail
  go_wp2_with fail
  obtain ⟨T', K'⟩ := HT.out.new' #[.int .i64 xo, .int .i64 xa, .int .i64 xb, .int .i64 xn, .int .i64 0, .int .i64 0, .int .i64 0, .int .i64 0] 42 Wc.heap.size (by first | (simp; done) | rfl)
  replace HT := Lib.hid T'
  replace Ht := Lib.hid (Ht.out.move (by decide) K')
  clear T' K'
  replace hz : w.heap.size ≤ ((Wc.alloc (.cells #[.int .i64 xo, .int .i64 xa, .int .i64 xb, .int .i64 xn, .int .i64 0, .int .i64 0, .int .i64 0, .int .i64 0] 42))).heap.size := Nat.le_trans hz (by simp)
  clear r_l q_l z_l
  generalize (Wc.alloc (.cells #[.int .i64 xo, .int .i64 xa, .int .i64 xb, .int .i64 xn, .int .i64 0, .int .i64 0, .int .i64 0, .int .i64 0] 42)) = W7 at *
  clear y0 y1 y2 y3
  obtain ⟨-, -, -, -, r_l, q_l, -⟩ := HT.out.rules
  have z_l : w.heap.size < W7.heap.size := (HT.out.in_ 3 rfl rfl).2
  refine ⟨trivial, ?_⟩
  refine plan_loud ?_
  simp only [pick, List.getElem?_toArray, List.getElem?_cons_succ, List.getElem?_cons_zero]
  have HO2 := Lib.hid (rd_lit (E := insE) (w := W7) (S := fun _ => True) (css := ncs [⟨xo, xa, xb, xn⟩, doneI]) (xs := [⟨xo, xa, xb, xn⟩, doneI]) (HT.out.heap 0 rfl) trivial (ncs_held _) rfl (by show 2 * 32 ≤ 140737488355328; decide) (by show 2 ≤ maxLen; decide) 2 rfl)
  refine wpList_append_stx rfl (.tmp 49) (.tmp 60) _ rfl (e := 42) (size := 4) (bytes := 32) Tryd.underlying43 infoIns rfl (by omega) HT.out 1 rfl rfl (some ⟨Wc.heap.size, 0, none⟩) 2 2 (cat (ncs ([⟨xo, xa, xb, xn⟩, doneI]))) rfl (ncs_len _) (rdN_cells HO2.out) (fun h => by cases h) (ncs_one _) (by unfold maxLen; omega) (by omega) HT.out.base ?next
  case next =>
    intro A8 c9 W10 T' K' hs3
    try rw [ncs_append] at T' K'
    clear r_l q_l z_l
    replace T' : St w.heap.size w W10 [.blk Wc.heap.size #[.int .i64 xo, .int .i64 xa, .int .i64 xb, .int .i64 xn, .int .i64 0, .int .i64 0, .int .i64 0, .int .i64 0] 42, .row w.heap.size 42 4 (.slice A8 8 c9) 8 (cat (ncs (tkL.take 6 ++ [⟨xo, xa, xb, xn⟩, doneI]))), .blk W5.heap.size #[.int .i64 13, .int .i64 2, .int .i64 5, .int .i64 0, .int .i64 13, .int .i64 1, .int .i64 5, .int .i64 0, .int .i64 11, .int .i64 2, .int .i64 3, .int .i64 0, .int .i64 15, .int .i64 2, .int .i64 0, .int .i64 0, .int .i64 8, .int .i64 0, .int .i64 5, .int .i64 0, .int .i64 17, .int .i64 6, .int .i64 4, .int .i64 0, .int .i64 12, .int .i64 6, .int .i64 7, .int .i64 0, .int .i64 14, .int .i64 4, .int .i64 6, .int .i64 0] 42, .blk w.heap.size #[.int .i64 7, .int .i64 2, .int .i64 0, .int .i64 2, .int .i64 7, .int .i64 3, .int .i64 0, .int .i64 1, .int .i64 11, .int .i64 2, .int .i64 3, .int .i64 0, .int .i64 10, .int .i64 4, .int .i64 2, .int .i64 0, .int .i64 1, .int .i64 5, .int .i64 0, .int .i64 1, .int .i64 13, .int .i64 1, .int .i64 5, .int .i64 0, .int .i64 0, .int .i64 0, .int .i64 0, .int .i64 0] 42] := T'
    replace K' : Keeps W7 [.blk Wc.heap.size #[.int .i64 xo, .int .i64 xa, .int .i64 xb, .int .i64 xn, .int .i64 0, .int .i64 0, .int .i64 0, .int .i64 0] 42, .row w.heap.size 42 4 (.slice Ak 6 ck) 6 (cat (ncs (tkL.take 6))), .blk W5.heap.size #[.int .i64 13, .int .i64 2, .int .i64 5, .int .i64 0, .int .i64 13, .int .i64 1, .int .i64 5, .int .i64 0, .int .i64 11, .int .i64 2, .int .i64 3, .int .i64 0, .int .i64 15, .int .i64 2, .int .i64 0, .int .i64 0, .int .i64 8, .int .i64 0, .int .i64 5, .int .i64 0, .int .i64 17, .int .i64 6, .int .i64 4, .int .i64 0, .int .i64 12, .int .i64 6, .int .i64 7, .int .i64 0, .int .i64 14, .int .i64 4, .int .i64 6, .int .i64 0] 42, .blk w.heap.size #[.int .i64 7, .int .i64 2, .int .i64 0, .int .i64 2, .int .i64 7, .int .i64 3, .int .i64 0, .int .i64 1, .int .i64 11, .int .i64 2, .int .i64 3, .int .i64 0, .int .i64 10, .int .i64 4, .int .i64 2, .int .i64 0, .int .i64 1, .int .i64 5, .int .i64 0, .int .i64 1, .int .i64 13, .int .i64 1, .int .i64 5, .int .i64 0, .int .i64 0, .int .i64 0, .int .i64 0, .int .i64 0] 42] W10 [.blk Wc.heap.size #[.int .i64 xo, .int .i64 xa, .int .i64 xb, .int .i64 xn, .int .i64 0, .int .i64 0, .int .i64 0, .int .i64 0] 42, .row w.heap.size 42 4 (.slice A8 8 c9) 8 (cat (ncs (tkL.take 6 ++ [⟨xo, xa, xb, xn⟩, doneI]))), .blk W5.heap.size #[.int .i64 13, .int .i64 2, .int .i64 5, .int .i64 0, .int .i64 13, .int .i64 1, .int .i64 5, .int .i64 0, .int .i64 11, .int .i64 2, .int .i64 3, .int .i64 0, .int .i64 15, .int .i64 2, .int .i64 0, .int .i64 0, .int .i64 8, .int .i64 0, .int .i64 5, .int .i64 0, .int .i64 17, .int .i64 6, .int .i64 4, .int .i64 0, .int .i64 12, .int .i64 6, .int .i64 7, .int .i64 0, .int .i64 14, .int .i64 4, .int .i64 6, .int .i64 0] 42, .blk w.heap.size #[.int .i64 7, .int .i64 2, .int .i64 0, .int .i64 2, .int .i64 7, .int .i64 3, .int .i64 0, .int .i64 1, .int .i64 11, .int .i64 2, .int .i64 3, .int .i64 0, .int .i64 10, .int .i64 4, .int .i64 2, .int .i64 0, .int .i64 1, .int .i64 5, .int .i64 0, .int .i64 1, .int .i64 13, .int .i64 1, .int .i64 5, .int .i64 0, .int .i64 0, .int .i64 0, .int .i64 0, .int .i64 0] 42] := K'
    replace HT := Lib.hid T'
    replace Ht := Lib.hid (Ht.out.move (by decide) K')
    replace hz : w.heap.size ≤ W10.heap.size := by omega
    clear T' K'
    clear HO2
    refine ⟨trivial, ?_⟩
    refine plan_still ?_
    simp only [pick, List.getElem?_toArray, List.getElem?_cons_succ, List.getElem?_cons_zero]
    repeat still_step
    refine wpStill_nil ?_
    refine plan_end (NoPanic.normal ?_)
    obtain ⟨T', K'⟩ := HT.out.drop 0
    simp only [List.eraseIdx_cons_zero] at T' K'
    replace HT := Lib.hid T'
    replace Ht := Lib.hid (Ht.out.move (by decide) K')
    clear T' K'
    obtain ⟨T', K'⟩ := HT.out.drop 1
    simp only [List.eraseIdx_cons_succ, List.eraseIdx_cons_zero] at T' K'
    replace HT := Lib.hid T'
    replace Ht := Lib.hid (Ht.out.move (by decide) K')
    clear T' K'
    obtain ⟨r_l, q_l, -⟩ := HT.out.rules
    have z_l : w.heap.size < W10.heap.size := (HT.out.in_ 1 rfl rfl).2
    go_upto_region 6 with fail
    go_wp2_with fail
    clear r_l q_l z_l
    obtain ⟨T', K'⟩ := HT.out.new' #[.int .i64 0, .int .i64 0, .int .i64 0, .int .i64 0] 42 W10.heap.size (by first | (simp; done) | rfl)
    replace HT := Lib.hid T'
    replace Ht := Lib.hid (Ht.out.move (by decide) K')
    clear T' K'
    replace hz : w.heap.size ≤ ((W10.alloc (.cells #[.int .i64 0, .int .i64 0, .int .i64 0, .int .i64 0] 42))).heap.size := Nat.le_trans hz (by simp)
    obtain ⟨T', K'⟩ := HT.out.new' #[.slice (some ⟨W10.heap.size, 0, none⟩) 1 1, .slice A8 8 c9] 43 (W10.heap.size + 1) (by first | (simp; done) | rfl)
    replace HT := Lib.hid T'
    replace Ht := Lib.hid (Ht.out.move (by decide) K')
    clear T' K'
    replace hz : w.heap.size ≤ (((W10.alloc (.cells #[.int .i64 0, .int .i64 0, .int .i64 0, .int .i64 0] 42)).alloc (.cells #[.slice (some ⟨W10.heap.size, 0, none⟩) 1 1, .slice A8 8 c9] 43))).heap.size := Nat.le_trans hz (by simp)
    generalize ((W10.alloc (.cells #[.int .i64 0, .int .i64 0, .int .i64 0, .int .i64 0] 42)).alloc (.cells #[.slice (some ⟨W10.heap.size, 0, none⟩) 1 1, .slice A8 8 c9] 43)) = W11 at *
    obtain ⟨r_m, q_m, r_d, q_d, r_l, q_l, -⟩ := HT.out.rules
    have z_m : W10.heap.size + 1 < W11.heap.size := (HT.out.in_ 0 rfl rfl).2
    have z_d : W10.heap.size < W11.heap.size := (HT.out.in_ 1 rfl rfl).2
    have z_l : w.heap.size < W11.heap.size := (HT.out.in_ 3 rfl rfl).2
    have rr0 : RdSl insE W11 (fun _ => True) (.slice (some ⟨W10.heap.size, 0, none⟩) 1 1) [doneI] := rd_lit (E := insE) (css := ncs [doneI]) (HT.out.heap 1 rfl) trivial (ncs_held [doneI]) rfl (by decide) (by decide) 1 rfl
    have rr1 : RdSl insE W11 (fun _ => True) (.slice A8 8 c9) (tkL.take 6 ++ [⟨xo, xa, xb, xn⟩, doneI]) := (HT.out.rdRow (E := insE) (n := 0) 2 rfl rfl rfl (ncs_held _) (by show 8 * 32 ≤ 140737488355328; decide) (Nat.zero_le _) (by decide)).keep (by decide) (fun _ _ _ => ⟨trivial, rfl⟩)
    have R3 := Lib.hid (rd_lit (E := pgE) (w := W11) (S := fun _ => True) (css := [[.slice (some ⟨W10.heap.size, 0, none⟩) 1 1], [.slice A8 8 c9]]) (xs := [[doneI], tkL.take 6 ++ [⟨xo, xa, xb, xn⟩, doneI]]) (HT.out.heap 0 rfl) trivial (Held.cons rfl ⟨_, rfl, rr0⟩ (Held.cons rfl ⟨_, rfl, rr1⟩ Held.nil)) rfl (by show 2 * 24 ≤ 140737488355328; decide) (by show 2 ≤ maxLen; decide) 2 rfl)
    clear rr0 rr1
    have GD := verCheck_any (fun _ => True) (some ⟨W10.heap.size + 1, 0, none⟩) 2 [[doneI], tkL.take 6 ++ [⟨xo, xa, xb, xn⟩, doneI]] W11 (Hu.out.below HT.out.below) R3.out
    rw [HB.out] at GD
    dsimp only [List.length] at GD
    have HGD := Lib.hid GD
    clear GD R3
    refine (HGD.out).mono ?_
    rintro en W12 ⟨rfl, hb⟩
    clear r_m q_m r_d q_d r_l q_l z_m z_d z_l
    obtain ⟨T', K'⟩ := HT.out.call hb
    replace HT := Lib.hid T'
    replace Ht := Lib.hid (Ht.out.move (by decide) K')
    clear T' K'
    replace hz : w.heap.size ≤ W12.heap.size := Nat.le_trans hz hb.size
    clear hb
    obtain ⟨r_m, q_m, r_d, q_d, r_l, q_l, -⟩ := HT.out.rules
    have z_m : W10.heap.size + 1 < W12.heap.size := (HT.out.in_ 0 rfl rfl).2
    have z_d : W10.heap.size < W12.heap.size := (HT.out.in_ 1 rfl rfl).2
    have z_l : w.heap.size < W12.heap.size := (HT.out.in_ 3 rfl rfl).2
    clear HGD
    obtain ⟨tb, tn, s1, c1, rfl, _, _, x1, hr1⟩ := Ht.out.at_s (show tkT[1]? = some _ from rfl)
    replace Ht : Hid (RdSl liE W12 (Fr w.heap.size [.blk (W10.heap.size + 1) #[.slice (some ⟨W10.heap.size, 0, none⟩) 1 1, .slice A8 8 c9] 43, .blk W10.heap.size #[.int .i64 0, .int .i64 0, .int .i64 0, .int .i64 0] 42, .row w.heap.size 42 4 (.slice A8 8 c9) 8 (cat (ncs (tkL.take 6 ++ [⟨xo, xa, xb, xn⟩, doneI]))), .blk w.heap.size #[.int .i64 7, .int .i64 2, .int .i64 0, .int .i64 2, .int .i64 7, .int .i64 3, .int .i64 0, .int .i64 1, .int .i64 11, .int .i64 2, .int .i64 3, .int .i64 0, .int .i64 10, .int .i64 4, .int .i64 2, .int .i64 0, .int .i64 1, .int .i64 5, .int .i64 0, .int .i64 1, .int .i64 13, .int .i64 1, .int .i64 5, .int .i64 0, .int .i64 0, .int .i64 0, .int .i64 0, .int .i64 0] 42]) (.slice (some ⟨tb, tn, none⟩) 7 d5) tkT) := Ht
    dsimp only [List.length] at x1 hr1
    obtain ⟨tb9, tn9, s3, c3, e9, _, _, x3, hr3⟩ := Ht.out.at_s (show tkT[3]? = some _ from rfl)
    injection e9 with e9
    injection e9 with e1 e2
    subst e1 e2
    dsimp only [List.length] at x3 hr3
    obtain ⟨tb9, tn9, s6, c6, e9, _, _, x6, hr6⟩ := Ht.out.at_s (show tkT[6]? = some _ from rfl)
    injection e9 with e9
    injection e9 with e1 e2
    subst e1 e2
    dsimp only [List.length] at x6 hr6
    obtain ⟨b1, o1, rfl, _, _, z12⟩ := hr1.at_i (i := 2) rfl
    clear hr1
    obtain ⟨b3, o3, rfl, _, _, z33⟩ := hr3.at_i (i := 3) rfl
    obtain ⟨b3x, o3x, e9, _, _, z32⟩ := hr3.at_i (i := 2) rfl
    injection e9 with e9
    injection e9 with e1 e2
    subst e1 e2
    clear hr3
    obtain ⟨b6, o6, rfl, _, _, z62⟩ := hr6.at_i (i := 2) rfl
    obtain ⟨b6x, o6x, e9, _, _, z64⟩ := hr6.at_i (i := 4) rfl
    injection e9 with e9
    injection e9 with e1 e2
    subst e1 e2
    obtain ⟨b6x, o6x, e9, _, _, z65⟩ := hr6.at_i (i := 5) rfl
    injection e9 with e9
    injection e9 with e1 e2
    subst e1 e2
    obtain ⟨b6x, o6x, e9, _, _, z61⟩ := hr6.at_i (i := 1) rfl
    injection e9 with e9
    injection e9 with e1 e2
    subst e1 e2
    obtain ⟨b6x, o6x, e9, _, _, z60⟩ := hr6.at_i (i := 0) rfl
    rw [Nat.add_zero] at z60
    injection e9 with e9
    injection e9 with e1 e2
    subst e1 e2
    clear hr6
    go_wp2_with fail
    go_ret
    exact ⟨rfl, HT.out.below⟩

theorem lifted (os : Os) (started : os.Started) (H : Type) (enc : TypeId × Value → H) :
    ReturnsInHanded {} Tryd.checked os 6 .any (fun w args => (Rows.typesKnownSpec.pre enc Tryd.prog Tryd.f6 [] false w args ∧ laidMetH Tryd.prog Rows.typesKnownRow.laid w) ∧ sizedMet enc Tryd.prog Tryd.f6 (OpenSpec.ofChange Rows.typesKnownSpec) false w args) (Rows.typesKnownSpec.post enc Tryd.prog Tryd.f6 false true false false) := by
  refine returnsInHanded_of_change_and (C := Tryd.checked) (X := fun w _ => laidMetH Tryd.prog Rows.typesKnownRow.laid w) (fun _ _ _ hh h => h.of_heap hh) own started (by kernel_rfl) Tryd.func6
    (ChangeSpec.witness_shaped (enc := enc) (C := Tryd.checked) (os := os) (X := fun w _ => laidMetH Tryd.prog Rows.typesKnownRow.laid w) false (World.doorLaid Tryd.prog 400 os) #[.int .i64 0] 8 rfl (World.shaped_of_RefB (by kernel_rfl) (by kernel_rfl)) (by kernel_rfl) (by kernel_rfl) (by kernel_rfl) (door_met os _)) ?_
  intro W base args ds gs before hval0 hW _ hsz0 hL _
  have hval : ∀ (j : Nat) t v, Tryd.f6.params[j]? = some t → args[j]? = some v → Value.okWide Tryd.prog W .any base t v := hval0
  have hsz : (DataW.weightsEach Tryd.prog (Tryd.f6.params.toList ++ Rows.typesKnownSpec.plain.varTypes Tryd.prog) (ds ++ gs)).all (· ≤ reachBytes) = true := hsz0
  have hW' := hW
  obtain ⟨p, q, hA0, hV, rfl, hfz, hnd⟩ := hW
  have hA : DataW.TrodAll enc Tryd.prog W 0 (fun _ => true) true Tryd.f6.params.toList args.toList ds p := hA0
  rw [Tryd.params6] at hA hval hsz
  obtain ⟨v0, vs0, d0, ds0, p0, q0, hargs, rfl, rfl, h0, r0⟩ := trodAll_cons hA
  obtain ⟨rfl, rfl, rfl⟩ := trodAll_nil r0
  obtain rfl : args = #[v0] := by cases args; simp_all
  obtain ⟨rfl, rfl⟩ := trodVars_none hV
  obtain ⟨a0, rfl, -, -, w0⟩ := open_int Tryd.underlying3 (hval 0 3 v0 rfl rfl) h0
  clear hA0 hval0 hsz0
  refine (walk W a0 (wf_i64_range w0) (uses_of hL)).mono fun e W' ⟨he, hb⟩ => ?_
  subst he
  exact ⟨_, rfl, law_post (tb := 4) laidOut Tryd.underlying4 (by kernel_rfl) (by rw [Tryd.params6]; exact all_types (by kernel_rfl)) rfl hW' rfl hb⟩

theorem closed : joinedFacts Tryd.prog 6 Tryd.f6 Rows.typesKnownSpec Rows.typesKnownRow = true :=
  facts_of (by kernel_rfl) laidOut fact_rowed (by kernel_rfl) (by kernel_rfl) (by kernel_rfl) fact_stops (by kernel_rfl) fact_knobs (by kernel_rfl) (by kernel_rfl) (by kernel_rfl) (by kernel_rfl) (by kernel_rfl) (by kernel_rfl) (by kernel_rfl) (by kernel_rfl) (by kernel_rfl) (by kernel_rfl) (by kernel_rfl) (by kernel_rfl) (by kernel_rfl) (by kernel_rfl) (by kernel_rfl) fact_heard fact_may (by rw [fact_lifts]; rfl) fact_make ⟨rfl, rfl⟩ (by kernel_rfl) (by kernel_rfl) (by kernel_rfl)
theorem over : Rows.typesKnownRow.holds Tryd.pinned (OpenSpec.ofChange Rows.typesKnownSpec) :=
  OpenClaim.holds_of_wide 6 Tryd.f6 rfl rfl rfl rfl rfl rfl rfl ⟨rfl, rfl, rfl, rfl, rfl⟩ rfl rfl rfl rfl rfl (by kernel_rfl) Tryd.func6 closed
    (of_decide_eq_true (by kernel_rfl)) (by unfold Func.isWrapper; first | (rw [if_pos (by decide +kernel)]; kernel_rfl) | (rw [if_neg (by decide +kernel)]; exact ⟨rfl, rfl⟩))
    (fun os started H enc _ => lifted os started H enc)
/-- THE STATEMENT: the tied card. -/
theorem proved : Rows.TypesKnownCardSaid := by
  unfold Rows.TypesKnownCardSaid Rows.typesKnownCard
  exact Claim7.holds_tied_plain_at .later [] [.data] true _ _ over (fun _ h => by cases h) (by kernel_rfl) (fun _ h => by cases h) typesKnown_row_tie rfl ⟨rfl, rfl⟩ (by kernel_rfl) rfl
    (fun f fn hf hfn => by
      obtain rfl : f = 6 := Option.some.inj ((show Tryd.prog.funcNamed "treadwheel/treadwheelkeep.TypesKnown" = some 6 by kernel_rfl).symm.trans hf) |>.symm
      obtain rfl : fn = Tryd.f6 := (Option.some.inj (Tryd.func6.symm.trans hfn)).symm
      exact ⟨by kernel_rfl, fun j t ht => by
        rw [Tryd.params6] at ht
        have hm : t ∈ ([3] : List TypeId) := by simpa using Array.mem_of_getElem? ht
        have hall : (([3] : List TypeId).all fun u => !Tryd.prog.wantsStandIn u) = true := by kernel_rfl
        exact (show Tryd.prog.wantsStandIn t = false by simpa using List.all_eq_true.1 hall t hm)⟩)
    (by kernel_rfl)
#print axioms proved
end Go.Proofs.YtabcjdalifhpdaaDoor.lawTypesKnown
