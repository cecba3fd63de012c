/- The walk of heap.Transfer. No condition beside what is read. -/
import Derived.Test.YtabcjdalifhpdaaSt
import Derived.Test.YtabcjdalifhpdaaReach
import Derived.Test.YtabcjdalifhpdaaGet
import Derived.Test.YtabcjdalifhpdaaSame
import Derived.Deep.CutRange
namespace Go.Proofs.Ytabcjdalifhpdaa
open Go.RowKit

def transE (fr : Hp) (v : V) (tt : Hp) (l : List Int) : Int :=
  if hpB fr [v] = false then 8 else if hpB tt [] = false then 8 else if l.any (deadAt fr.objs) = true then 10 else if tt.most < (tt.objs.length : Int) + (l.length : Int) then 7 else 0
def transFrom (fr : Hp) (v : V) (tt : Hp) (l : List Int) (move : Bool) : Hp := if transE fr v tt l = 0 then ⟨fr.most, movedL fr.objs (if move then l else [])⟩ else ⟨0, []⟩
def transTo (fr : Hp) (v : V) (tt : Hp) (l : List Int) : Hp := if transE fr v tt l = 0 then ⟨tt.most, partC fr.objs tt.objs l l.length⟩ else ⟨0, []⟩
def transV (fr : Hp) (v : V) (tt : Hp) (l : List Int) : V := if transE fr v tt l = 0 then newV (plM tt.objs.length l) v else ⟨0, 0⟩
def TransD (w : World) (fr : Hp) (v : V) (tt : Hp) (l : List Int) (move : Bool) (en : Ending) (w' : World) : Prop :=
  ∃ u1 u2, en = .returned (.tuple #[u1, u2, .agg #[.int .i64 (transV fr v tt l).k, .int .i64 (transV fr v tt l).n], .int .i64 (transE fr v tt l)]) ∧ RdH w' w.heap.size u1 (transFrom fr v tt l move) ∧ RdH w' w.heap.size u2 (transTo fr v tt l) ∧ Below w.heap.size w w'

theorem checkN_none {h : Hp} {r : List V} (hb : hpB h r = false) : checkN h r = 8 := by simp [checkN, hb]
theorem checkN_ok {h : Hp} {r : List V} (hb : hpB h r = true) : checkN h r = 0 := by simp [checkN, hb]

set_option maxRecDepth 100000 in
set_option maxHeartbeats 8000000 in
theorem transfer_any (m m2 : Int) (S T : Nat → Prop) (A B : Option Addr) (c d : Nat) (fr tt : List Ob) (v : V) (move : Bool) (w : World) (hr : RdSl obE w S (.slice A fr.length c) fr) (hq : RdSl obE w T (.slice B tt.length d) tt) :
    Calls Try.prog 8 #[.agg #[.int .i64 m, .slice A fr.length c], .agg #[.int .i64 v.k, .int .i64 v.n], .agg #[.int .i64 m2, .slice B tt.length d], .bool move] w (TransD w ⟨m, fr⟩ v ⟨m2, tt⟩ (reachL fr [v]) move) := by
  have Hr := Lib.hid hr
  have Hq := Lib.hid hq
  obtain ⟨-, h1, h2, h3⟩ := hr.lims
  obtain ⟨-, h4, h5, h6⟩ := hq.lims
  have hfb := Lib.hid h3
  have htb := Lib.hid h6
  clear hr hq h3 h6
  have T0 : St w.heap.size w ((((((((w.alloc (.cells #[.int .i64 m, .slice A fr.length c] 25)).alloc (.cells #[.int .i64 v.k, .int .i64 v.n] 30)).alloc (.cells #[.int .i64 m2, .slice B tt.length d] 25)).alloc (.cells #[.int .i64 0, .slice none 0 0] 25)).alloc (.cells #[.int .i64 0, .slice none 0 0] 25)).alloc (.cells #[.int .i64 0, .int .i64 0] 30)).alloc (.cells #[.int .i64 0, .slice none 0 0] 25))) [.blk (w.heap.size + 1 + 1 + 1 + 1 + 1 + 1) #[.int .i64 0, .slice none 0 0] 25, .blk (w.heap.size + 1 + 1 + 1 + 1 + 1) #[.int .i64 0, .int .i64 0] 30, .blk (w.heap.size + 1 + 1 + 1 + 1) #[.int .i64 0, .slice none 0 0] 25, .blk (w.heap.size + 1 + 1 + 1) #[.int .i64 0, .slice none 0 0] 25, .blk (w.heap.size + 1 + 1) #[.int .i64 m2, .slice B tt.length d] 25, .blk (w.heap.size + 1) #[.int .i64 v.k, .int .i64 v.n] 30, .blk w.heap.size #[.int .i64 m, .slice A fr.length c] 25] := ((((((((((((((St.start w (Nat.le_refl _)).new' #[.int .i64 m, .slice A fr.length c] 25 (w.heap.size) (by simp)).1).new' #[.int .i64 v.k, .int .i64 v.n] 30 (w.heap.size + 1) (by simp)).1).new' #[.int .i64 m2, .slice B tt.length d] 25 (w.heap.size + 1 + 1) (by simp)).1).new' #[.int .i64 0, .slice none 0 0] 25 (w.heap.size + 1 + 1 + 1) (by simp)).1).new' #[.int .i64 0, .slice none 0 0] 25 (w.heap.size + 1 + 1 + 1 + 1) (by simp)).1).new' #[.int .i64 0, .int .i64 0] 30 (w.heap.size + 1 + 1 + 1 + 1 + 1) (by simp)).1).new' #[.int .i64 0, .slice none 0 0] 25 (w.heap.size + 1 + 1 + 1 + 1 + 1 + 1) (by simp)).1
  have HT0 := Lib.hid T0
  have hz0 : w.heap.size + 1 + 1 + 1 + 1 + 1 + 1 + 1 ≤ (((((((w.alloc (.cells #[.int .i64 m, .slice A fr.length c] 25)).alloc (.cells #[.int .i64 v.k, .int .i64 v.n] 30)).alloc (.cells #[.int .i64 m2, .slice B tt.length d] 25)).alloc (.cells #[.int .i64 0, .slice none 0 0] 25)).alloc (.cells #[.int .i64 0, .slice none 0 0] 25)).alloc (.cells #[.int .i64 0, .int .i64 0] 30)).alloc (.cells #[.int .i64 0, .slice none 0 0] 25)).heap.size := by simp
  replace Hr := Lib.hid (Hr.out.pool (by decide) T0)
  replace Hq := Lib.hid (Hq.out.pool (by decide) T0)
  clear T0
  have refused : ∀ r : Int, transE ⟨m, fr⟩ v ⟨m2, tt⟩ (reachL fr [v]) = r → r ≠ 0 → TransD w ⟨m, fr⟩ v ⟨m2, tt⟩ (reachL fr [v]) move = fun en w' => ∃ u1 u2, en = .returned (.tuple #[u1, u2, .agg #[.int .i64 0, .int .i64 0], .int .i64 r]) ∧ RdH w' w.heap.size u1 ⟨0, []⟩ ∧ RdH w' w.heap.size u2 ⟨0, []⟩ ∧ Below w.heap.size w w' := by
    intro r he hr0
    have hn : ¬ transE ⟨m, fr⟩ v ⟨m2, tt⟩ (reachL fr [v]) = 0 := by rw [he]; exact hr0
    funext en w'
    unfold TransD transFrom transTo transV
    rw [if_neg hn, if_neg hn, if_neg hn, he]
  by_cases hp1 : hpB ⟨m, fr⟩ [v] = true
  · have Hok := Lib.hid (hpB_refs hp1)
    have HC1 := Lib.hid (checkN_ok hp1)
    by_cases hp2 : hpB ⟨m2, tt⟩ [] = true
    
    · have HC2 := Lib.hid (checkN_ok hp2)
      have HT := HT0
      have hw := hz0
      clear HT0 hz0
      go_enter Try.func8, Try.ntmps8
      go_upto_region 2 with fail
      generalize (((((((w.alloc (.cells #[.int .i64 m, .slice A fr.length c] 25)).alloc (.cells #[.int .i64 v.k, .int .i64 v.n] 30)).alloc (.cells #[.int .i64 m2, .slice B tt.length d] 25)).alloc (.cells #[.int .i64 0, .slice none 0 0] 25)).alloc (.cells #[.int .i64 0, .slice none 0 0] 25)).alloc (.cells #[.int .i64 0, .int .i64 0] 30)).alloc (.cells #[.int .i64 0, .slice none 0 0] 25)) = W0 at *
      obtain ⟨r_none, q_none, r_rV, q_rV, r_rB, q_rB, r_rA, q_rA, r_to, q_to, r_v, q_v, r_from, q_from, -⟩ := HT.out.rules
      have z_none : w.heap.size + 1 + 1 + 1 + 1 + 1 + 1 < W0.heap.size := (HT.out.in_ 0 rfl rfl).2
      have z_rV : w.heap.size + 1 + 1 + 1 + 1 + 1 < W0.heap.size := (HT.out.in_ 1 rfl rfl).2
      have z_rB : w.heap.size + 1 + 1 + 1 + 1 < W0.heap.size := (HT.out.in_ 2 rfl rfl).2
      have z_rA : w.heap.size + 1 + 1 + 1 < W0.heap.size := (HT.out.in_ 3 rfl rfl).2
      have z_to : w.heap.size + 1 + 1 < W0.heap.size := (HT.out.in_ 4 rfl rfl).2
      have z_v : w.heap.size + 1 < W0.heap.size := (HT.out.in_ 5 rfl rfl).2
      have z_from : w.heap.size < W0.heap.size := (HT.out.in_ 6 rfl rfl).2
      go_wp2_with fail
      obtain ⟨T', K'⟩ := HT.out.alloc (.cells #[.int .i64 v.k, .int .i64 v.n] 30)
      replace HT := Lib.hid T'
      replace Hr := Lib.hid (Hr.out.move (by decide) K')
      replace Hq := Lib.hid (Hq.out.move (by decide) K')
      clear T' K'
      replace hw : w.heap.size + 1 + 1 + 1 + 1 + 1 + 1 + 1 ≤ ((W0.alloc (.cells #[.int .i64 v.k, .int .i64 v.n] 30))).heap.size := Nat.le_trans hw (by simp)
      refine (check_is m _ _ A _ c 1 fr [v] _ _ HC1 Hr.out (rd_one (blk_at rfl))).mono ?_
      rintro e W1 ⟨rfl, hb⟩
      clear r_none q_none r_rV q_rV r_rB q_rB r_rA q_rA r_to q_to r_v q_v r_from q_from z_none z_rV z_rB z_rA z_to z_v z_from
      obtain ⟨T', K'⟩ := HT.out.call hb
      replace HT := Lib.hid T'
      replace Hr := Lib.hid (Hr.out.move (by decide) K')
      replace Hq := Lib.hid (Hq.out.move (by decide) K')
      clear T' K'
      replace hw : w.heap.size + 1 + 1 + 1 + 1 + 1 + 1 + 1 ≤ W1.heap.size := Nat.le_trans hw hb.size
      clear hb
      obtain ⟨r_none, q_none, r_rV, q_rV, r_rB, q_rB, r_rA, q_rA, r_to, q_to, r_v, q_v, r_from, q_from, -⟩ := HT.out.rules
      have z_none : w.heap.size + 1 + 1 + 1 + 1 + 1 + 1 < W1.heap.size := (HT.out.in_ 0 rfl rfl).2
      have z_rV : w.heap.size + 1 + 1 + 1 + 1 + 1 < W1.heap.size := (HT.out.in_ 1 rfl rfl).2
      have z_rB : w.heap.size + 1 + 1 + 1 + 1 < W1.heap.size := (HT.out.in_ 2 rfl rfl).2
      have z_rA : w.heap.size + 1 + 1 + 1 < W1.heap.size := (HT.out.in_ 3 rfl rfl).2
      have z_to : w.heap.size + 1 + 1 < W1.heap.size := (HT.out.in_ 4 rfl rfl).2
      have z_v : w.heap.size + 1 < W1.heap.size := (HT.out.in_ 5 rfl rfl).2
      have z_from : w.heap.size < W1.heap.size := (HT.out.in_ 6 rfl rfl).2
      go_wp2_with fail
      refine (check_is m2 _ (fun _ => True) B none d 0 tt [] _ _ HC2 Hq.out RdSl.nil).mono ?_
      rintro e W2 ⟨rfl, hb⟩
      clear r_none q_none r_rV q_rV r_rB q_rB r_rA q_rA r_to q_to r_v q_v r_from q_from z_none z_rV z_rB z_rA z_to z_v z_from
      obtain ⟨T', K'⟩ := HT.out.call hb
      replace HT := Lib.hid T'
      replace Hr := Lib.hid (Hr.out.move (by decide) K')
      replace Hq := Lib.hid (Hq.out.move (by decide) K')
      clear T' K'
      replace hw : w.heap.size + 1 + 1 + 1 + 1 + 1 + 1 + 1 ≤ W2.heap.size := Nat.le_trans hw hb.size
      clear hb
      obtain ⟨r_none, q_none, r_rV, q_rV, r_rB, q_rB, r_rA, q_rA, r_to, q_to, r_v, q_v, r_from, q_from, -⟩ := HT.out.rules
      have z_none : w.heap.size + 1 + 1 + 1 + 1 + 1 + 1 < W2.heap.size := (HT.out.in_ 0 rfl rfl).2
      have z_rV : w.heap.size + 1 + 1 + 1 + 1 + 1 < W2.heap.size := (HT.out.in_ 1 rfl rfl).2
      have z_rB : w.heap.size + 1 + 1 + 1 + 1 < W2.heap.size := (HT.out.in_ 2 rfl rfl).2
      have z_rA : w.heap.size + 1 + 1 + 1 < W2.heap.size := (HT.out.in_ 3 rfl rfl).2
      have z_to : w.heap.size + 1 + 1 < W2.heap.size := (HT.out.in_ 4 rfl rfl).2
      have z_v : w.heap.size + 1 < W2.heap.size := (HT.out.in_ 5 rfl rfl).2
      have z_from : w.heap.size < W2.heap.size := (HT.out.in_ 6 rfl rfl).2
      go_wp2_with fail
      obtain ⟨T', K'⟩ := HT.out.alloc (.cells #[.int .i64 v.k, .int .i64 v.n] 30)
      replace HT := Lib.hid T'
      replace Hr := Lib.hid (Hr.out.move (by decide) K')
      replace Hq := Lib.hid (Hq.out.move (by decide) K')
      clear T' K'
      replace hw : w.heap.size + 1 + 1 + 1 + 1 + 1 + 1 + 1 ≤ ((W2.alloc (.cells #[.int .i64 v.k, .int .i64 v.n] 30))).heap.size := Nat.le_trans hw (by simp)
      refine (reach_any m _ _ A _ c 1 fr [v] _ Hr.out (rd_one (blk_at rfl)) Hok.out).mono ?_
      rintro e W3 ⟨v3, l, rfl, hled, htold, hown3, hb⟩
      obtain ⟨R3, c3, rfl⟩ := own_form hown3
      have Hl := Lib.hid ((own_i hown3 (by have := htold.len; have := Hok.out.few; omega)).rd.keep (S' := fun b => ((W2.alloc (.cells #[.int .i64 v.k, .int .i64 v.n] 30))).heap.size ≤ b) (by decide) (fun b _ h => ⟨h.elim (fun h => h.elim) id, rfl⟩))
      have HRL := Lib.hid (reachL_is hled)
      have Hfresh := Lib.hid (HT.out)
      obtain ⟨T', K'⟩ := HT.out.call hb
      replace HT := Lib.hid T'
      replace Hr := Lib.hid (Hr.out.move (by decide) K')
      replace Hq := Lib.hid (Hq.out.move (by decide) K')
      clear T' K'
      replace hw : w.heap.size + 1 + 1 + 1 + 1 + 1 + 1 + 1 ≤ W3.heap.size := Nat.le_trans hw hb.size
      clear hb
      replace Hl := Lib.hid (Hl.out.fresh (by decide) Hfresh.out (Nat.zero_le _))
      clear Hfresh
      have Htold := Lib.hid htold
      have Hled := Lib.hid hled
      have hlen : l.length ≤ fr.length := htold.len
      have hfew := Hok.out.few
      clear hled htold hown3
      clear r_none q_none r_rV q_rV r_rB q_rB r_rA q_rA r_to q_to r_v q_v r_from q_from z_none z_rV z_rB z_rA z_to z_v z_from
      obtain ⟨r_none, q_none, r_rV, q_rV, r_rB, q_rB, r_rA, q_rA, r_to, q_to, r_v, q_v, r_from, q_from, -⟩ := HT.out.rules
      have z_none : w.heap.size + 1 + 1 + 1 + 1 + 1 + 1 < W3.heap.size := (HT.out.in_ 0 rfl rfl).2
      have z_rV : w.heap.size + 1 + 1 + 1 + 1 + 1 < W3.heap.size := (HT.out.in_ 1 rfl rfl).2
      have z_rB : w.heap.size + 1 + 1 + 1 + 1 < W3.heap.size := (HT.out.in_ 2 rfl rfl).2
      have z_rA : w.heap.size + 1 + 1 + 1 < W3.heap.size := (HT.out.in_ 3 rfl rfl).2
      have z_to : w.heap.size + 1 + 1 < W3.heap.size := (HT.out.in_ 4 rfl rfl).2
      have z_v : w.heap.size + 1 < W3.heap.size := (HT.out.in_ 5 rfl rfl).2
      have z_from : w.heap.size < W3.heap.size := (HT.out.in_ 6 rfl rfl).2
      go_wp2_with fail
      have hen := fun (args : Array Value) (W : World) => (enters_of Try.func21 (by kernel_rfl) rfl : Enters Try.prog 21) args W
      have G4 := Lib.hid (containsFuncI_any _ _ _ _ _ _ _ _ Hl.out (transfer1_any m _ A c fr w.heap.size W3 l (r_from 0) (r_from 1) Hr.out Htold.out.within) hen)
      clear hen
      refine (G4.out).mono ?_
      rintro e W4 ⟨rfl, hb⟩
      clear r_none q_none r_rV q_rV r_rB q_rB r_rA q_rA r_to q_to r_v q_v r_from q_from z_none z_rV z_rB z_rA z_to z_v z_from
      obtain ⟨T', K'⟩ := HT.out.call hb
      replace HT := Lib.hid T'
      replace Hr := Lib.hid (Hr.out.move (by decide) K')
      replace Hq := Lib.hid (Hq.out.move (by decide) K')
      replace Hl := Lib.hid (Hl.out.move (by decide) K')
      clear T' K'
      replace hw : w.heap.size + 1 + 1 + 1 + 1 + 1 + 1 + 1 ≤ W4.heap.size := Nat.le_trans hw hb.size
      clear hb
      obtain ⟨r_none, q_none, r_rV, q_rV, r_rB, q_rB, r_rA, q_rA, r_to, q_to, r_v, q_v, r_from, q_from, -⟩ := HT.out.rules
      have z_none : w.heap.size + 1 + 1 + 1 + 1 + 1 + 1 < W4.heap.size := (HT.out.in_ 0 rfl rfl).2
      have z_rV : w.heap.size + 1 + 1 + 1 + 1 + 1 < W4.heap.size := (HT.out.in_ 1 rfl rfl).2
      have z_rB : w.heap.size + 1 + 1 + 1 + 1 < W4.heap.size := (HT.out.in_ 2 rfl rfl).2
      have z_rA : w.heap.size + 1 + 1 + 1 < W4.heap.size := (HT.out.in_ 3 rfl rfl).2
      have z_to : w.heap.size + 1 + 1 < W4.heap.size := (HT.out.in_ 4 rfl rfl).2
      have z_v : w.heap.size + 1 < W4.heap.size := (HT.out.in_ 5 rfl rfl).2
      have z_from : w.heap.size < W4.heap.size := (HT.out.in_ 6 rfl rfl).2
      clear G4
      have htf : tt.length ≤ 60 := (hpB_refs hp2).few
      have hlf : l.length ≤ 60 := Nat.le_trans hlen hfew
      cases hdead : l.any (deadAt fr)
      rotate_left
      focus
        have hE : transE ⟨m, fr⟩ v ⟨m2, tt⟩ (reachL fr [v]) = 10 := by
          rw [HRL.out]
          unfold transE
          rw [if_neg (by rw [hp1]; decide), if_neg (by rw [hp2]; decide), if_pos hdead]
        have HRF := Lib.hid (refused 10 hE (by decide))
        clear refused hE hdead
        go_wp2_with fail
        refine wp_region_plan [.still [0, 1, 2], .loud 3 [1, 2], .loud 4 [2], .loud 5 [], .still [6]] (by kernel_rfl) (by kernel_rfl) ?_
        refine plan_still ?_
        simp only [pick, List.getElem?_toArray, List.getElem?_cons_succ, List.getElem?_cons_zero]
        repeat still_step
        refine wpStill_nil ?_
        refine plan_loud ?_
        simp only [pick, List.getElem?_toArray, List.getElem?_cons_succ, List.getElem?_cons_zero]
        go_wp2_with fail
        clear r_none q_none r_rV q_rV r_rB q_rB r_rA q_rA r_to q_to r_v q_v r_from q_from z_none z_rV z_rB z_rA z_to z_v z_from
        obtain ⟨T', K'⟩ := HT.out.put2 3 (.int .i64 0) (.slice none 0 0) rfl rfl
        simp only [List.set_cons_succ, List.set_cons_zero] at T' K'
        replace HT := Lib.hid T'
        replace Hr := Lib.hid (Hr.out.move (by decide) K')
        replace Hq := Lib.hid (Hq.out.move (by decide) K')
        replace Hl := Lib.hid (Hl.out.move (by decide) K')
        clear T' K'
        replace hw : w.heap.size + 1 + 1 + 1 + 1 + 1 + 1 + 1 ≤ (((W4.setCell ⟨w.heap.size + 1 + 1 + 1, 0, none⟩ (.int .i64 0)).setCell ⟨w.heap.size + 1 + 1 + 1, 1, none⟩ (.slice none 0 0))).heap.size := by simpa using hw
        generalize (W4.setCell ⟨w.heap.size + 1 + 1 + 1, 0, none⟩ (.int .i64 0)).setCell ⟨w.heap.size + 1 + 1 + 1, 1, none⟩ (.slice none 0 0) = W4s1 at *
        obtain ⟨r_none, q_none, r_rV, q_rV, r_rB, q_rB, r_rA, q_rA, r_to, q_to, r_v, q_v, r_from, q_from, -⟩ := HT.out.rules
        have z_none : w.heap.size + 1 + 1 + 1 + 1 + 1 + 1 < W4s1.heap.size := (HT.out.in_ 0 rfl rfl).2
        have z_rV : w.heap.size + 1 + 1 + 1 + 1 + 1 < W4s1.heap.size := (HT.out.in_ 1 rfl rfl).2
        have z_rB : w.heap.size + 1 + 1 + 1 + 1 < W4s1.heap.size := (HT.out.in_ 2 rfl rfl).2
        have z_rA : w.heap.size + 1 + 1 + 1 < W4s1.heap.size := (HT.out.in_ 3 rfl rfl).2
        have z_to : w.heap.size + 1 + 1 < W4s1.heap.size := (HT.out.in_ 4 rfl rfl).2
        have z_v : w.heap.size + 1 < W4s1.heap.size := (HT.out.in_ 5 rfl rfl).2
        have z_from : w.heap.size < W4s1.heap.size := (HT.out.in_ 6 rfl rfl).2
        refine ⟨?_, ?_⟩
        · simp only [Again, pick, List.getElem?_toArray, List.getElem?_cons_succ, List.getElem?_cons_zero]
          refine ⟨?_, ?_, trivial⟩
          all_goals (still_step; exact wpStill_nil rfl)
        refine plan_loud ?_
        simp only [pick, List.getElem?_toArray, List.getElem?_cons_succ, List.getElem?_cons_zero]
        go_wp2_with fail
        clear r_none q_none r_rV q_rV r_rB q_rB r_rA q_rA r_to q_to r_v q_v r_from q_from z_none z_rV z_rB z_rA z_to z_v z_from
        obtain ⟨T', K'⟩ := HT.out.put2 2 (.int .i64 0) (.slice none 0 0) rfl rfl
        simp only [List.set_cons_succ, List.set_cons_zero] at T' K'
        replace HT := Lib.hid T'
        replace Hr := Lib.hid (Hr.out.move (by decide) K')
        replace Hq := Lib.hid (Hq.out.move (by decide) K')
        replace Hl := Lib.hid (Hl.out.move (by decide) K')
        clear T' K'
        replace hw : w.heap.size + 1 + 1 + 1 + 1 + 1 + 1 + 1 ≤ (((W4s1.setCell ⟨w.heap.size + 1 + 1 + 1 + 1, 0, none⟩ (.int .i64 0)).setCell ⟨w.heap.size + 1 + 1 + 1 + 1, 1, none⟩ (.slice none 0 0))).heap.size := by simpa using hw
        generalize (W4s1.setCell ⟨w.heap.size + 1 + 1 + 1 + 1, 0, none⟩ (.int .i64 0)).setCell ⟨w.heap.size + 1 + 1 + 1 + 1, 1, none⟩ (.slice none 0 0) = W4s2 at *
        obtain ⟨r_none, q_none, r_rV, q_rV, r_rB, q_rB, r_rA, q_rA, r_to, q_to, r_v, q_v, r_from, q_from, -⟩ := HT.out.rules
        have z_none : w.heap.size + 1 + 1 + 1 + 1 + 1 + 1 < W4s2.heap.size := (HT.out.in_ 0 rfl rfl).2
        have z_rV : w.heap.size + 1 + 1 + 1 + 1 + 1 < W4s2.heap.size := (HT.out.in_ 1 rfl rfl).2
        have z_rB : w.heap.size + 1 + 1 + 1 + 1 < W4s2.heap.size := (HT.out.in_ 2 rfl rfl).2
        have z_rA : w.heap.size + 1 + 1 + 1 < W4s2.heap.size := (HT.out.in_ 3 rfl rfl).2
        have z_to : w.heap.size + 1 + 1 < W4s2.heap.size := (HT.out.in_ 4 rfl rfl).2
        have z_v : w.heap.size + 1 < W4s2.heap.size := (HT.out.in_ 5 rfl rfl).2
        have z_from : w.heap.size < W4s2.heap.size := (HT.out.in_ 6 rfl rfl).2
        refine ⟨?_, ?_⟩
        · simp only [Again, pick, List.getElem?_toArray, List.getElem?_cons_succ, List.getElem?_cons_zero]
          refine ⟨?_, trivial⟩
          all_goals (still_step; exact wpStill_nil rfl)
        refine plan_loud ?_
        simp only [pick, List.getElem?_toArray, List.getElem?_cons_succ, List.getElem?_cons_zero]
        go_wp2_with fail
        clear r_none q_none r_rV q_rV r_rB q_rB r_rA q_rA r_to q_to r_v q_v r_from q_from z_none z_rV z_rB z_rA z_to z_v z_from
        obtain ⟨T', K'⟩ := HT.out.put2 1 (.int .i64 0) (.int .i64 0) rfl rfl
        simp only [List.set_cons_succ, List.set_cons_zero] at T' K'
        replace HT := Lib.hid T'
        replace Hr := Lib.hid (Hr.out.move (by decide) K')
        replace Hq := Lib.hid (Hq.out.move (by decide) K')
        replace Hl := Lib.hid (Hl.out.move (by decide) K')
        clear T' K'
        replace hw : w.heap.size + 1 + 1 + 1 + 1 + 1 + 1 + 1 ≤ (((W4s2.setCell ⟨w.heap.size + 1 + 1 + 1 + 1 + 1, 0, none⟩ (.int .i64 0)).setCell ⟨w.heap.size + 1 + 1 + 1 + 1 + 1, 1, none⟩ (.int .i64 0))).heap.size := by simpa using hw
        generalize (W4s2.setCell ⟨w.heap.size + 1 + 1 + 1 + 1 + 1, 0, none⟩ (.int .i64 0)).setCell ⟨w.heap.size + 1 + 1 + 1 + 1 + 1, 1, none⟩ (.int .i64 0) = W4s3 at *
        obtain ⟨r_none, q_none, r_rV, q_rV, r_rB, q_rB, r_rA, q_rA, r_to, q_to, r_v, q_v, r_from, q_from, -⟩ := HT.out.rules
        have z_none : w.heap.size + 1 + 1 + 1 + 1 + 1 + 1 < W4s3.heap.size := (HT.out.in_ 0 rfl rfl).2
        have z_rV : w.heap.size + 1 + 1 + 1 + 1 + 1 < W4s3.heap.size := (HT.out.in_ 1 rfl rfl).2
        have z_rB : w.heap.size + 1 + 1 + 1 + 1 < W4s3.heap.size := (HT.out.in_ 2 rfl rfl).2
        have z_rA : w.heap.size + 1 + 1 + 1 < W4s3.heap.size := (HT.out.in_ 3 rfl rfl).2
        have z_to : w.heap.size + 1 + 1 < W4s3.heap.size := (HT.out.in_ 4 rfl rfl).2
        have z_v : w.heap.size + 1 < W4s3.heap.size := (HT.out.in_ 5 rfl rfl).2
        have z_from : w.heap.size < W4s3.heap.size := (HT.out.in_ 6 rfl rfl).2
        refine ⟨trivial, ?_⟩
        refine plan_still ?_
        simp only [pick, List.getElem?_toArray, List.getElem?_cons_succ, List.getElem?_cons_zero]
        repeat still_step
        refine wpStill_nil ?_
        refine plan_end (NoPanic.normal ?_)
        go_wp2_with fail
        refine bodyPost_ret (v := .tuple #[.agg #[.int .i64 0, .slice none 0 0], .agg #[.int .i64 0, .slice none 0 0], .agg #[.int .i64 0, .int .i64 0], .int .i64 10]) (by simp [results, Try.results8, go_sem, r_rA, r_rB, r_rV]) rfl (by rw [HRF.out]; exact ⟨_, _, rfl, .zero, .zero, HT.out.below.drew⟩)
      by_cases hroom : m2 < (tt.length : Int) + (l.length : Int)
      focus
        have hE : transE ⟨m, fr⟩ v ⟨m2, tt⟩ (reachL fr [v]) = 7 := by
          rw [HRL.out]
          unfold transE
          rw [if_neg (by rw [hp1]; decide), if_neg (by rw [hp2]; decide), if_neg (by rw [hdead]; decide), if_pos hroom]
        have HRF := Lib.hid (refused 7 hE (by decide))
        clear refused hE hdead
        go_wp2_with fail
        refine wp_region_plan [.still [0, 1, 2], .loud 3 [1, 2], .loud 4 [2], .loud 5 [], .still [6]] (by kernel_rfl) (by kernel_rfl) ?_
        refine plan_still ?_
        simp only [pick, List.getElem?_toArray, List.getElem?_cons_succ, List.getElem?_cons_zero]
        repeat still_step
        refine wpStill_nil ?_
        refine plan_loud ?_
        simp only [pick, List.getElem?_toArray, List.getElem?_cons_succ, List.getElem?_cons_zero]
        go_wp2_with fail
        clear r_none q_none r_rV q_rV r_rB q_rB r_rA q_rA r_to q_to r_v q_v r_from q_from z_none z_rV z_rB z_rA z_to z_v z_from
        obtain ⟨T', K'⟩ := HT.out.put2 3 (.int .i64 0) (.slice none 0 0) rfl rfl
        simp only [List.set_cons_succ, List.set_cons_zero] at T' K'
        replace HT := Lib.hid T'
        replace Hr := Lib.hid (Hr.out.move (by decide) K')
        replace Hq := Lib.hid (Hq.out.move (by decide) K')
        replace Hl := Lib.hid (Hl.out.move (by decide) K')
        clear T' K'
        replace hw : w.heap.size + 1 + 1 + 1 + 1 + 1 + 1 + 1 ≤ (((W4.setCell ⟨w.heap.size + 1 + 1 + 1, 0, none⟩ (.int .i64 0)).setCell ⟨w.heap.size + 1 + 1 + 1, 1, none⟩ (.slice none 0 0))).heap.size := by simpa using hw
        generalize (W4.setCell ⟨w.heap.size + 1 + 1 + 1, 0, none⟩ (.int .i64 0)).setCell ⟨w.heap.size + 1 + 1 + 1, 1, none⟩ (.slice none 0 0) = W4s1 at *
        obtain ⟨r_none, q_none, r_rV, q_rV, r_rB, q_rB, r_rA, q_rA, r_to, q_to, r_v, q_v, r_from, q_from, -⟩ := HT.out.rules
        have z_none : w.heap.size + 1 + 1 + 1 + 1 + 1 + 1 < W4s1.heap.size := (HT.out.in_ 0 rfl rfl).2
        have z_rV : w.heap.size + 1 + 1 + 1 + 1 + 1 < W4s1.heap.size := (HT.out.in_ 1 rfl rfl).2
        have z_rB : w.heap.size + 1 + 1 + 1 + 1 < W4s1.heap.size := (HT.out.in_ 2 rfl rfl).2
        have z_rA : w.heap.size + 1 + 1 + 1 < W4s1.heap.size := (HT.out.in_ 3 rfl rfl).2
        have z_to : w.heap.size + 1 + 1 < W4s1.heap.size := (HT.out.in_ 4 rfl rfl).2
        have z_v : w.heap.size + 1 < W4s1.heap.size := (HT.out.in_ 5 rfl rfl).2
        have z_from : w.heap.size < W4s1.heap.size := (HT.out.in_ 6 rfl rfl).2
        refine ⟨?_, ?_⟩
        · simp only [Again, pick, List.getElem?_toArray, List.getElem?_cons_succ, List.getElem?_cons_zero]
          refine ⟨?_, ?_, trivial⟩
          all_goals (still_step; exact wpStill_nil rfl)
        refine plan_loud ?_
        simp only [pick, List.getElem?_toArray, List.getElem?_cons_succ, List.getElem?_cons_zero]
        go_wp2_with fail
        clear r_none q_none r_rV q_rV r_rB q_rB r_rA q_rA r_to q_to r_v q_v r_from q_from z_none z_rV z_rB z_rA z_to z_v z_from
        obtain ⟨T', K'⟩ := HT.out.put2 2 (.int .i64 0) (.slice none 0 0) rfl rfl
        simp only [List.set_cons_succ, List.set_cons_zero] at T' K'
        replace HT := Lib.hid T'
        replace Hr := Lib.hid (Hr.out.move (by decide) K')
        replace Hq := Lib.hid (Hq.out.move (by decide) K')
        replace Hl := Lib.hid (Hl.out.move (by decide) K')
        clear T' K'
        replace hw : w.heap.size + 1 + 1 + 1 + 1 + 1 + 1 + 1 ≤ (((W4s1.setCell ⟨w.heap.size + 1 + 1 + 1 + 1, 0, none⟩ (.int .i64 0)).setCell ⟨w.heap.size + 1 + 1 + 1 + 1, 1, none⟩ (.slice none 0 0))).heap.size := by simpa using hw
        generalize (W4s1.setCell ⟨w.heap.size + 1 + 1 + 1 + 1, 0, none⟩ (.int .i64 0)).setCell ⟨w.heap.size + 1 + 1 + 1 + 1, 1, none⟩ (.slice none 0 0) = W4s2 at *
        obtain ⟨r_none, q_none, r_rV, q_rV, r_rB, q_rB, r_rA, q_rA, r_to, q_to, r_v, q_v, r_from, q_from, -⟩ := HT.out.rules
        have z_none : w.heap.size + 1 + 1 + 1 + 1 + 1 + 1 < W4s2.heap.size := (HT.out.in_ 0 rfl rfl).2
        have z_rV : w.heap.size + 1 + 1 + 1 + 1 + 1 < W4s2.heap.size := (HT.out.in_ 1 rfl rfl).2
        have z_rB : w.heap.size + 1 + 1 + 1 + 1 < W4s2.heap.size := (HT.out.in_ 2 rfl rfl).2
        have z_rA : w.heap.size + 1 + 1 + 1 < W4s2.heap.size := (HT.out.in_ 3 rfl rfl).2
        have z_to : w.heap.size + 1 + 1 < W4s2.heap.size := (HT.out.in_ 4 rfl rfl).2
        have z_v : w.heap.size + 1 < W4s2.heap.size := (HT.out.in_ 5 rfl rfl).2
        have z_from : w.heap.size < W4s2.heap.size := (HT.out.in_ 6 rfl rfl).2
        refine ⟨?_, ?_⟩
        · simp only [Again, pick, List.getElem?_toArray, List.getElem?_cons_succ, List.getElem?_cons_zero]
          refine ⟨?_, trivial⟩
          all_goals (still_step; exact wpStill_nil rfl)
        refine plan_loud ?_
        simp only [pick, List.getElem?_toArray, List.getElem?_cons_succ, List.getElem?_cons_zero]
        go_wp2_with fail
        clear r_none q_none r_rV q_rV r_rB q_rB r_rA q_rA r_to q_to r_v q_v r_from q_from z_none z_rV z_rB z_rA z_to z_v z_from
        obtain ⟨T', K'⟩ := HT.out.put2 1 (.int .i64 0) (.int .i64 0) rfl rfl
        simp only [List.set_cons_succ, List.set_cons_zero] at T' K'
        replace HT := Lib.hid T'
        replace Hr := Lib.hid (Hr.out.move (by decide) K')
        replace Hq := Lib.hid (Hq.out.move (by decide) K')
        replace Hl := Lib.hid (Hl.out.move (by decide) K')
        clear T' K'
        replace hw : w.heap.size + 1 + 1 + 1 + 1 + 1 + 1 + 1 ≤ (((W4s2.setCell ⟨w.heap.size + 1 + 1 + 1 + 1 + 1, 0, none⟩ (.int .i64 0)).setCell ⟨w.heap.size + 1 + 1 + 1 + 1 + 1, 1, none⟩ (.int .i64 0))).heap.size := by simpa using hw
        generalize (W4s2.setCell ⟨w.heap.size + 1 + 1 + 1 + 1 + 1, 0, none⟩ (.int .i64 0)).setCell ⟨w.heap.size + 1 + 1 + 1 + 1 + 1, 1, none⟩ (.int .i64 0) = W4s3 at *
        obtain ⟨r_none, q_none, r_rV, q_rV, r_rB, q_rB, r_rA, q_rA, r_to, q_to, r_v, q_v, r_from, q_from, -⟩ := HT.out.rules
        have z_none : w.heap.size + 1 + 1 + 1 + 1 + 1 + 1 < W4s3.heap.size := (HT.out.in_ 0 rfl rfl).2
        have z_rV : w.heap.size + 1 + 1 + 1 + 1 + 1 < W4s3.heap.size := (HT.out.in_ 1 rfl rfl).2
        have z_rB : w.heap.size + 1 + 1 + 1 + 1 < W4s3.heap.size := (HT.out.in_ 2 rfl rfl).2
        have z_rA : w.heap.size + 1 + 1 + 1 < W4s3.heap.size := (HT.out.in_ 3 rfl rfl).2
        have z_to : w.heap.size + 1 + 1 < W4s3.heap.size := (HT.out.in_ 4 rfl rfl).2
        have z_v : w.heap.size + 1 < W4s3.heap.size := (HT.out.in_ 5 rfl rfl).2
        have z_from : w.heap.size < W4s3.heap.size := (HT.out.in_ 6 rfl rfl).2
        refine ⟨trivial, ?_⟩
        refine plan_still ?_
        simp only [pick, List.getElem?_toArray, List.getElem?_cons_succ, List.getElem?_cons_zero]
        repeat still_step
        refine wpStill_nil ?_
        refine plan_end (NoPanic.normal ?_)
        go_wp2_with fail
        refine bodyPost_ret (v := .tuple #[.agg #[.int .i64 0, .slice none 0 0], .agg #[.int .i64 0, .slice none 0 0], .agg #[.int .i64 0, .int .i64 0], .int .i64 7]) (by simp [results, Try.results8, go_sem, r_rA, r_rB, r_rV]) rfl (by rw [HRF.out]; exact ⟨_, _, rfl, .zero, .zero, HT.out.below.drew⟩)
      have hE : transE ⟨m, fr⟩ v ⟨m2, tt⟩ (reachL fr [v]) = 0 := by
        rw [HRL.out]
        unfold transE
        rw [if_neg (by rw [hp1]; decide), if_neg (by rw [hp2]; decide), if_neg (by rw [hdead]; decide), if_neg hroom]
      have hpost : TransD w ⟨m, fr⟩ v ⟨m2, tt⟩ (reachL fr [v]) move = fun en w' => ∃ u1 u2, en = .returned (.tuple #[u1, u2, .agg #[.int .i64 (newV (plM tt.length l) v).k, .int .i64 (newV (plM tt.length l) v).n], .int .i64 0]) ∧ RdH w' w.heap.size u1 ⟨m, movedL fr (if move then l else [])⟩ ∧ RdH w' w.heap.size u2 ⟨m2, partC fr tt l l.length⟩ ∧ Below w.heap.size w w' := by
        funext en w'
        unfold TransD transFrom transTo transV
        rw [if_pos hE, if_pos hE, if_pos hE, hE, HRL.out]
      have HP := Lib.hid hpost
      clear refused hE hpost
      have h13 : (tt.length : Int) + (l.length : Int) ≤ m2 := by omega
      clear hdead hroom hp1 hp2
      go_wp2_with fail
      refine wp_region_plan [.still [0, 2], .loud 1 [2], .loud 3 [], .loud 4 [], .loud 5 []] (by kernel_rfl) (by kernel_rfl) ?_
      refine plan_still ?_
      simp only [pick, List.getElem?_toArray, List.getElem?_cons_succ, List.getElem?_cons_zero]
      repeat still_step
      refine wpStill_nil ?_
      refine plan_loud ?_
      simp only [pick, List.getElem?_toArray, List.getElem?_cons_succ, List.getElem?_cons_zero]
      go_wp2_with fail
      obtain ⟨T', K'⟩ := HT.out.drew'
      replace HT := Lib.hid T'
      replace Hr := Lib.hid (Hr.out.move (by decide) K')
      replace Hq := Lib.hid (Hq.out.move (by decide) K')
      replace Hl := Lib.hid (Hl.out.move (by decide) K')
      clear T' K'
      replace hw : w.heap.size + 1 + 1 + 1 + 1 + 1 + 1 + 1 ≤ W4.drew.heap.size := hw
      refine (cloneH_any m _ A c fr _ Hr.out).mono ?_
      rintro e W5 ⟨v5, vs5, rfl, hsep, -, hb⟩
      obtain ⟨A5, c5, rfl⟩ := own_form hsep.row
      have hvl5 := hsep.len
      clear r_none q_none r_rV q_rV r_rB q_rB r_rA q_rA r_to q_to r_v q_v r_from q_from z_none z_rV z_rB z_rA z_to z_v z_from
      obtain ⟨T', K', hh⟩ := HT.out.heapMade hb hsep (n := w.heap.size) (by omega)
      replace HT := Lib.hid T'
      have HF := Lib.hid hh
      replace Hr := Lib.hid (Hr.out.move (by decide) K')
      replace Hq := Lib.hid (Hq.out.move (by decide) K')
      replace Hl := Lib.hid (Hl.out.move (by decide) K')
      replace hw : w.heap.size + 1 + 1 + 1 + 1 + 1 + 1 + 1 ≤ W5.heap.size := Nat.le_trans hw hb.size
      clear T' K' hh hb hsep
      obtain ⟨r_none, q_none, r_rV, q_rV, r_rB, q_rB, r_rA, q_rA, r_to, q_to, r_v, q_v, r_from, q_from, -⟩ := HT.out.rules
      have z_none : w.heap.size + 1 + 1 + 1 + 1 + 1 + 1 < W5.heap.size := (HT.out.in_ 1 rfl rfl).2
      have z_rV : w.heap.size + 1 + 1 + 1 + 1 + 1 < W5.heap.size := (HT.out.in_ 2 rfl rfl).2
      have z_rB : w.heap.size + 1 + 1 + 1 + 1 < W5.heap.size := (HT.out.in_ 3 rfl rfl).2
      have z_rA : w.heap.size + 1 + 1 + 1 < W5.heap.size := (HT.out.in_ 4 rfl rfl).2
      have z_to : w.heap.size + 1 + 1 < W5.heap.size := (HT.out.in_ 5 rfl rfl).2
      have z_v : w.heap.size + 1 < W5.heap.size := (HT.out.in_ 6 rfl rfl).2
      have z_from : w.heap.size < W5.heap.size := (HT.out.in_ 7 rfl rfl).2
      go_wp2_with fail
      refine ⟨?_, ?_⟩
      · simp only [Again, pick, List.getElem?_toArray, List.getElem?_cons_succ, List.getElem?_cons_zero]
        refine ⟨?_, trivial⟩
        all_goals (still_step; exact wpStill_nil rfl)
      refine plan_loud ?_
      simp only [pick, List.getElem?_toArray, List.getElem?_cons_succ, List.getElem?_cons_zero]
      go_wp2_with fail
      refine (cloneH_any m2 _ B d tt _ Hq.out).mono ?_
      rintro e W6 ⟨v6, vs6, rfl, hsep, -, hb⟩
      obtain ⟨A6, c6, rfl⟩ := own_form hsep.row
      have hvl6 := hsep.len
      clear r_none q_none r_rV q_rV r_rB q_rB r_rA q_rA r_to q_to r_v q_v r_from q_from z_none z_rV z_rB z_rA z_to z_v z_from
      obtain ⟨T', K', hh⟩ := HT.out.heapMade hb hsep (n := w.heap.size) (by omega)
      replace HT := Lib.hid T'
      have HTt := Lib.hid hh
      replace Hr := Lib.hid (Hr.out.move (by decide) K')
      replace Hq := Lib.hid (Hq.out.move (by decide) K')
      replace Hl := Lib.hid (Hl.out.move (by decide) K')
      replace HF := Lib.hid (HF.out.move K')
      replace hw : w.heap.size + 1 + 1 + 1 + 1 + 1 + 1 + 1 ≤ W6.heap.size := Nat.le_trans hw hb.size
      clear T' K' hh hb hsep
      obtain ⟨r_none, q_none, r_rV, q_rV, r_rB, q_rB, r_rA, q_rA, r_to, q_to, r_v, q_v, r_from, q_from, -⟩ := HT.out.rules
      have z_none : w.heap.size + 1 + 1 + 1 + 1 + 1 + 1 < W6.heap.size := (HT.out.in_ 2 rfl rfl).2
      have z_rV : w.heap.size + 1 + 1 + 1 + 1 + 1 < W6.heap.size := (HT.out.in_ 3 rfl rfl).2
      have z_rB : w.heap.size + 1 + 1 + 1 + 1 < W6.heap.size := (HT.out.in_ 4 rfl rfl).2
      have z_rA : w.heap.size + 1 + 1 + 1 < W6.heap.size := (HT.out.in_ 5 rfl rfl).2
      have z_to : w.heap.size + 1 + 1 < W6.heap.size := (HT.out.in_ 6 rfl rfl).2
      have z_v : w.heap.size + 1 < W6.heap.size := (HT.out.in_ 7 rfl rfl).2
      have z_from : w.heap.size < W6.heap.size := (HT.out.in_ 8 rfl rfl).2
      go_wp2_with fail
      refine ⟨trivial, ?_⟩
      refine plan_loud ?_
      simp only [pick, List.getElem?_toArray, List.getElem?_cons_succ, List.getElem?_cons_zero]
      go_wp2_with fail
      clear r_none q_none r_rV q_rV r_rB q_rB r_rA q_rA r_to q_to r_v q_v r_from q_from z_none z_rV z_rB z_rA z_to z_v z_from
      obtain ⟨T', K'⟩ := HT.out.put2 8 (.int .i64 m) (.slice A5 fr.length c5) rfl rfl
      simp only [List.set_cons_succ, List.set_cons_zero] at T' K'
      replace HT := Lib.hid T'
      replace Hr := Lib.hid (Hr.out.move (by decide) K')
      replace Hq := Lib.hid (Hq.out.move (by decide) K')
      replace Hl := Lib.hid (Hl.out.move (by decide) K')
      replace HF := Lib.hid (HF.out.move K')
      replace HTt := Lib.hid (HTt.out.move K')
      clear T' K'
      replace hw : w.heap.size + 1 + 1 + 1 + 1 + 1 + 1 + 1 ≤ (((W6.setCell ⟨w.heap.size, 0, none⟩ (.int .i64 m)).setCell ⟨w.heap.size, 1, none⟩ (.slice A5 fr.length c5))).heap.size := by simpa using hw
      generalize (W6.setCell ⟨w.heap.size, 0, none⟩ (.int .i64 m)).setCell ⟨w.heap.size, 1, none⟩ (.slice A5 fr.length c5) = W7 at *
      obtain ⟨r_none, q_none, r_rV, q_rV, r_rB, q_rB, r_rA, q_rA, r_to, q_to, r_v, q_v, r_from, q_from, -⟩ := HT.out.rules
      have z_none : w.heap.size + 1 + 1 + 1 + 1 + 1 + 1 < W7.heap.size := (HT.out.in_ 2 rfl rfl).2
      have z_rV : w.heap.size + 1 + 1 + 1 + 1 + 1 < W7.heap.size := (HT.out.in_ 3 rfl rfl).2
      have z_rB : w.heap.size + 1 + 1 + 1 + 1 < W7.heap.size := (HT.out.in_ 4 rfl rfl).2
      have z_rA : w.heap.size + 1 + 1 + 1 < W7.heap.size := (HT.out.in_ 5 rfl rfl).2
      have z_to : w.heap.size + 1 + 1 < W7.heap.size := (HT.out.in_ 6 rfl rfl).2
      have z_v : w.heap.size + 1 < W7.heap.size := (HT.out.in_ 7 rfl rfl).2
      have z_from : w.heap.size < W7.heap.size := (HT.out.in_ 8 rfl rfl).2
      refine ⟨trivial, ?_⟩
      refine plan_loud ?_
      simp only [pick, List.getElem?_toArray, List.getElem?_cons_succ, List.getElem?_cons_zero]
      go_wp2_with fail
      clear r_none q_none r_rV q_rV r_rB q_rB r_rA q_rA r_to q_to r_v q_v r_from q_from z_none z_rV z_rB z_rA z_to z_v z_from
      obtain ⟨T', K'⟩ := HT.out.put2 6 (.int .i64 m2) (.slice A6 tt.length c6) rfl rfl
      simp only [List.set_cons_succ, List.set_cons_zero] at T' K'
      replace HT := Lib.hid T'
      replace Hr := Lib.hid (Hr.out.move (by decide) K')
      replace Hq := Lib.hid (Hq.out.move (by decide) K')
      replace Hl := Lib.hid (Hl.out.move (by decide) K')
      replace HF := Lib.hid (HF.out.move K')
      replace HTt := Lib.hid (HTt.out.move K')
      clear T' K'
      replace hw : w.heap.size + 1 + 1 + 1 + 1 + 1 + 1 + 1 ≤ (((W7.setCell ⟨w.heap.size + 1 + 1, 0, none⟩ (.int .i64 m2)).setCell ⟨w.heap.size + 1 + 1, 1, none⟩ (.slice A6 tt.length c6))).heap.size := by simpa using hw
      generalize (W7.setCell ⟨w.heap.size + 1 + 1, 0, none⟩ (.int .i64 m2)).setCell ⟨w.heap.size + 1 + 1, 1, none⟩ (.slice A6 tt.length c6) = W8 at *
      obtain ⟨r_none, q_none, r_rV, q_rV, r_rB, q_rB, r_rA, q_rA, r_to, q_to, r_v, q_v, r_from, q_from, -⟩ := HT.out.rules
      have z_none : w.heap.size + 1 + 1 + 1 + 1 + 1 + 1 < W8.heap.size := (HT.out.in_ 2 rfl rfl).2
      have z_rV : w.heap.size + 1 + 1 + 1 + 1 + 1 < W8.heap.size := (HT.out.in_ 3 rfl rfl).2
      have z_rB : w.heap.size + 1 + 1 + 1 + 1 < W8.heap.size := (HT.out.in_ 4 rfl rfl).2
      have z_rA : w.heap.size + 1 + 1 + 1 < W8.heap.size := (HT.out.in_ 5 rfl rfl).2
      have z_to : w.heap.size + 1 + 1 < W8.heap.size := (HT.out.in_ 6 rfl rfl).2
      have z_v : w.heap.size + 1 < W8.heap.size := (HT.out.in_ 7 rfl rfl).2
      have z_from : w.heap.size < W8.heap.size := (HT.out.in_ 8 rfl rfl).2
      refine ⟨trivial, ?_⟩
      refine plan_end (NoPanic.normal ?_)
      have hmm := @run_makeMap Try.prog
      have hz8 : w.heap.size + 7 ≤ W8.heap.size := by have h := hw; (try simp at h); omega
      obtain ⟨T', K'⟩ := HT.out.made (w' := W8.alloc (.map #[] 0)) ((Below.refl _ _).alloc (Nat.le_refl _) _) (mapR Try.prog 3 3 (.int .i64 0) W8.heap.size 0 (fun x => .int .i64 (plM tt.length (l.take 0) x))) ((MapV.made (plainElem_int Try.underlying3 (a := 0) (by decide))).congr (fun k _ => by simp [plM])) (fun b hb => by replace hb : b = W8.heap.size := hb; subst hb; simp)
      replace HT := Lib.hid T'
      replace Hr := Lib.hid (Hr.out.move (by decide) K')
      replace Hq := Lib.hid (Hq.out.move (by decide) K')
      replace Hl := Lib.hid (Hl.out.move (by decide) K')
      replace HF := Lib.hid (HF.out.move K')
      replace HTt := Lib.hid (HTt.out.move K')
      replace hw : w.heap.size + 1 + 1 + 1 + 1 + 1 + 1 + 1 ≤ ((W8.alloc (.map #[] 0))).heap.size := Nat.le_trans hw (by simp)
      clear T' K'
      obtain ⟨T', K'⟩ := HT.out.new' #[.map (some W8.heap.size)] 61 (W8.heap.size + 1) (by first | (simp; done) | rfl)
      replace HT := Lib.hid T'
      replace Hr := Lib.hid (Hr.out.move (by decide) K')
      replace Hq := Lib.hid (Hq.out.move (by decide) K')
      replace Hl := Lib.hid (Hl.out.move (by decide) K')
      replace HF := Lib.hid (HF.out.move K')
      replace HTt := Lib.hid (HTt.out.move K')
      clear T' K'
      replace hw : w.heap.size + 1 + 1 + 1 + 1 + 1 + 1 + 1 ≤ (((W8.alloc (.map #[] 0)).alloc (.cells #[.map (some W8.heap.size)] 61))).heap.size := Nat.le_trans hw (by simp)
      clear Hr Hq
      go_upto_region 15 with fail
      clear r_none q_none r_rV q_rV r_rB q_rB r_rA q_rA r_to q_to r_v q_v r_from q_from z_none z_rV z_rB z_rA z_to z_v z_from
      generalize ((W8.alloc (.map #[] 0)).alloc (.cells #[.map (some W8.heap.size)] 61)) = W9 at *
      have hz : W8.heap.size + 2 ≤ W9.heap.size := by have h := (HT.out.in_ 0 rfl rfl).2; omega
      obtain ⟨r_place, q_place, -, -, -, -, -, -, -, -, r_to, q_to, -⟩ := HT.out.rules
      have z_place : W8.heap.size + 1 < W9.heap.size := (HT.out.in_ 0 rfl rfl).2
      have z_to : w.heap.size + 1 + 1 < W9.heap.size := (HT.out.in_ 8 rfl rfl).2
      go_wp2_with fail
      clear r_place q_place r_to q_to z_place z_to
      have Hmap0 := Lib.hid (HT.out.map 1 rfl)
      go_loopw [75] (fun i wr => ∃ (k : Nat) (vr : Value) (css : List (List Value)), k ≤ l.length ∧ i = .int .i64 k ∧ St w.heap.size w wr [.blk (W8.heap.size + 1) #[.map (some W8.heap.size)] 61, mapR Try.prog 3 3 (.int .i64 0) W8.heap.size k (fun x => .int .i64 (plM tt.length (l.take k) x)), .row w.heap.size 41 2 vr (tt.length + k) (cat css), .row w.heap.size 41 2 (.slice A5 fr.length c5) fr.length (cat (rowsOf vs5 fr)), .blk (w.heap.size + 1 + 1 + 1 + 1 + 1 + 1) #[.int .i64 0, .slice none 0 0] 25, .blk (w.heap.size + 1 + 1 + 1 + 1 + 1) #[.int .i64 0, .int .i64 0] 30, .blk (w.heap.size + 1 + 1 + 1 + 1) #[.int .i64 0, .slice none 0 0] 25, .blk (w.heap.size + 1 + 1 + 1) #[.int .i64 0, .slice none 0 0] 25, .blk (w.heap.size + 1 + 1) #[.int .i64 m2, vr] 25, .blk (w.heap.size + 1) #[.int .i64 v.k, .int .i64 v.n] 30, .blk w.heap.size #[.int .i64 m, .slice A5 fr.length c5] 25] ∧ Held obE wr (Fr w.heap.size [.blk (W8.heap.size + 1) #[.map (some W8.heap.size)] 61, mapR Try.prog 3 3 (.int .i64 0) W8.heap.size k (fun x => .int .i64 (plM tt.length (l.take k) x)), .row w.heap.size 41 2 vr (tt.length + k) (cat css), .row w.heap.size 41 2 (.slice A5 fr.length c5) fr.length (cat (rowsOf vs5 fr)), .blk (w.heap.size + 1 + 1 + 1 + 1 + 1 + 1) #[.int .i64 0, .slice none 0 0] 25, .blk (w.heap.size + 1 + 1 + 1 + 1 + 1) #[.int .i64 0, .int .i64 0] 30, .blk (w.heap.size + 1 + 1 + 1 + 1) #[.int .i64 0, .slice none 0 0] 25, .blk (w.heap.size + 1 + 1 + 1) #[.int .i64 0, .slice none 0 0] 25, .blk (w.heap.size + 1 + 1) #[.int .i64 m2, vr] 25, .blk (w.heap.size + 1) #[.int .i64 v.k, .int .i64 v.n] 30, .blk w.heap.size #[.int .i64 m, .slice A5 fr.length c5] 25]) css (tt ++ List.replicate k ⟨[], false⟩) ∧ Held obE wr (Fr w.heap.size [.blk (W8.heap.size + 1) #[.map (some W8.heap.size)] 61, mapR Try.prog 3 3 (.int .i64 0) W8.heap.size k (fun x => .int .i64 (plM tt.length (l.take k) x)), .row w.heap.size 41 2 vr (tt.length + k) (cat css), .row w.heap.size 41 2 (.slice A5 fr.length c5) fr.length (cat (rowsOf vs5 fr)), .blk (w.heap.size + 1 + 1 + 1 + 1 + 1 + 1) #[.int .i64 0, .slice none 0 0] 25, .blk (w.heap.size + 1 + 1 + 1 + 1 + 1) #[.int .i64 0, .int .i64 0] 30, .blk (w.heap.size + 1 + 1 + 1 + 1) #[.int .i64 0, .slice none 0 0] 25, .blk (w.heap.size + 1 + 1 + 1) #[.int .i64 0, .slice none 0 0] 25, .blk (w.heap.size + 1 + 1) #[.int .i64 m2, vr] 25, .blk (w.heap.size + 1) #[.int .i64 v.k, .int .i64 v.n] 30, .blk w.heap.size #[.int .i64 m, .slice A5 fr.length c5] 25]) (rowsOf vs5 fr) fr ∧ RdSl iE wr (Fr 0 [.blk (W8.heap.size + 1) #[.map (some W8.heap.size)] 61, mapR Try.prog 3 3 (.int .i64 0) W8.heap.size k (fun x => .int .i64 (plM tt.length (l.take k) x)), .row w.heap.size 41 2 vr (tt.length + k) (cat css), .row w.heap.size 41 2 (.slice A5 fr.length c5) fr.length (cat (rowsOf vs5 fr)), .blk (w.heap.size + 1 + 1 + 1 + 1 + 1 + 1) #[.int .i64 0, .slice none 0 0] 25, .blk (w.heap.size + 1 + 1 + 1 + 1 + 1) #[.int .i64 0, .int .i64 0] 30, .blk (w.heap.size + 1 + 1 + 1 + 1) #[.int .i64 0, .slice none 0 0] 25, .blk (w.heap.size + 1 + 1 + 1) #[.int .i64 0, .slice none 0 0] 25, .blk (w.heap.size + 1 + 1) #[.int .i64 m2, vr] 25, .blk (w.heap.size + 1) #[.int .i64 v.k, .int .i64 v.n] 30, .blk w.heap.size #[.int .i64 m, .slice A5 fr.length c5] 25]) (.slice R3 l.length c3) l ∧ W8.heap.size + 2 ≤ wr.heap.size ∧ w.heap.size + 7 ≤ wr.heap.size) (fun i _ => l.length - (intOf i).toNat)
      case atStart =>
        refine ⟨0, .slice A6 tt.length c6, rowsOf vs6 tt, Nat.zero_le _, rfl, ?_, ?_, HF.out, Hl.out, hz, hw⟩
        · exact HT.out
        · simpa using HTt.out
      case round =>
        clear HT HF HTt Hl Hmap0 hz hw
        obtain ⟨k, vr, css, hk, rfl, ht, htt, hf, hl, hz, hw⟩ := hrel
        have HT := Lib.hid ht
        have HTt := Lib.hid htt
        have HF := Lib.hid hf
        have Hl := Lib.hid hl
        clear ht htt hf hl
        by_cases hlt : k < l.length
        · obtain ⟨x, hx⟩ : ∃ x, l[k]? = some x := ⟨l[k], List.getElem?_eq_getElem hlt⟩
          obtain ⟨b, o, rfl, _, _, y0⟩ := Hl.out.at_i hx
          have hxw := Htold.out.within x (List.mem_of_getElem? hx)
          have hwf := wf60 (i := x) (by omega)
          have hwn : (Lit.int .i64 ((tt.length + k : Nat) : Int)).wf = true := WalkArith.wf_i64 (by omega)
          obtain ⟨Av, cv, rfl⟩ := own_form (HT.out.own 2 rfl)
          have HX := Lib.hid hx
          clear hx
          have i1 : (0 : Int) ≤ (k : Int) := by omega
          have i2 : (k : Int) < (l.length : Int) := by omega
          have hmp := Lib.hid (HT.out.map 1 rfl)
          obtain ⟨r_place, q_place, -, -, -, -, -, -, -, -, r_to, q_to, -⟩ := HT.out.rules
          have z_place : W8.heap.size + 1 < wr.heap.size := (HT.out.in_ 0 rfl rfl).2
          have z_to : w.heap.size + 1 + 1 < wr.heap.size := (HT.out.in_ 8 rfl rfl).2
          go_wp2_with (at_mapUpdate; go_loud (refine wpList_update_mv _ rfl _ _ _ 61 rfl 3 3 (.int .i64 0) W8.heap.size k _ Try.underlying3 Try.underlying61 rfl hmp.out (by unfold maxLen; omega) x (.int .i64 ((tt.length + k : Nat) : Int)) rfl rfl hwf _ (plainElem_int Try.underlying3 hwn) ?next))
          case next =>
            intro w2 hm2 hg2
            clear r_place q_place r_to q_to z_place z_to
            have hm3 := hm2.congr (g := fun y => .int .i64 (plM tt.length (l.take (k + 1)) y)) (fun y _ => by rw [plM_take Htold.out.nodup HX.out]; split <;> rfl)
            obtain ⟨T', K'⟩ := HT.out.mapPut 1 rfl hg2 hm3
            simp only [List.set_cons_succ, List.set_cons_zero] at T' K'
            replace HT := Lib.hid T'
            replace HF := Lib.hid (HF.out.move K')
            replace HTt := Lib.hid (HTt.out.move K')
            replace Hl := Lib.hid (Hl.out.move (by decide) K')
            clear T' K'
            replace hz : W8.heap.size + 2 ≤ w2.heap.size := Nat.le_trans hz hg2.size
            replace hw : w.heap.size + 7 ≤ w2.heap.size := Nat.le_trans hw hg2.size
            clear hm2 hm3 hg2 hmp
            obtain ⟨r_place, q_place, -, -, -, -, -, -, -, -, r_to, q_to, -⟩ := HT.out.rules
            have z_place : W8.heap.size + 1 < w2.heap.size := (HT.out.in_ 0 rfl rfl).2
            have z_to : w.heap.size + 1 + 1 < w2.heap.size := (HT.out.in_ 8 rfl rfl).2
            go_wp2_with (at_builtin; go_loud (refine wpList_append_css rfl (.tmp 85) (.tmp 87) _ rfl (e := 41) (size := 2) (bytes := 32) Try.underlying23 infoO rfl (by omega) HT.out 2 rfl rfl [.slice none 0 0, .bool false] 41 rfl rfl (by simp [Value.oneCell']) (by unfold maxLen; omega) (by omega) (by omega) ?next))
            case next =>
              intro A7 c7 w3 T' K' hs3
              clear r_place q_place r_to q_to z_place z_to
              replace T' : St w.heap.size w w3 [.blk (W8.heap.size + 1) #[.map (some W8.heap.size)] 61, mapR Try.prog 3 3 (.int .i64 0) W8.heap.size (k + 1) (fun x => .int .i64 (plM tt.length (l.take (k + 1)) x)), .row w.heap.size 41 2 (.slice A7 (tt.length + k + 1) c7) (tt.length + k + 1) (cat (css ++ [[Value.slice none 0 0, Value.bool false]])), .row w.heap.size 41 2 (.slice A5 fr.length c5) fr.length (cat (rowsOf vs5 fr)), .blk (w.heap.size + 1 + 1 + 1 + 1 + 1 + 1) #[.int .i64 0, .slice none 0 0] 25, .blk (w.heap.size + 1 + 1 + 1 + 1 + 1) #[.int .i64 0, .int .i64 0] 30, .blk (w.heap.size + 1 + 1 + 1 + 1) #[.int .i64 0, .slice none 0 0] 25, .blk (w.heap.size + 1 + 1 + 1) #[.int .i64 0, .slice none 0 0] 25, .blk (w.heap.size + 1 + 1) #[.int .i64 m2, .slice Av (tt.length + k) cv] 25, .blk (w.heap.size + 1) #[.int .i64 v.k, .int .i64 v.n] 30, .blk w.heap.size #[.int .i64 m, .slice A5 fr.length c5] 25] := T'
              replace K' : Keeps w2 [.blk (W8.heap.size + 1) #[.map (some W8.heap.size)] 61, mapR Try.prog 3 3 (.int .i64 0) W8.heap.size (k + 1) (fun x => .int .i64 (plM tt.length (l.take (k + 1)) x)), .row w.heap.size 41 2 (.slice Av (tt.length + k) cv) (tt.length + k) (cat css), .row w.heap.size 41 2 (.slice A5 fr.length c5) fr.length (cat (rowsOf vs5 fr)), .blk (w.heap.size + 1 + 1 + 1 + 1 + 1 + 1) #[.int .i64 0, .slice none 0 0] 25, .blk (w.heap.size + 1 + 1 + 1 + 1 + 1) #[.int .i64 0, .int .i64 0] 30, .blk (w.heap.size + 1 + 1 + 1 + 1) #[.int .i64 0, .slice none 0 0] 25, .blk (w.heap.size + 1 + 1 + 1) #[.int .i64 0, .slice none 0 0] 25, .blk (w.heap.size + 1 + 1) #[.int .i64 m2, .slice Av (tt.length + k) cv] 25, .blk (w.heap.size + 1) #[.int .i64 v.k, .int .i64 v.n] 30, .blk w.heap.size #[.int .i64 m, .slice A5 fr.length c5] 25] w3 [.blk (W8.heap.size + 1) #[.map (some W8.heap.size)] 61, mapR Try.prog 3 3 (.int .i64 0) W8.heap.size (k + 1) (fun x => .int .i64 (plM tt.length (l.take (k + 1)) x)), .row w.heap.size 41 2 (.slice A7 (tt.length + k + 1) c7) (tt.length + k + 1) (cat (css ++ [[Value.slice none 0 0, Value.bool false]])), .row w.heap.size 41 2 (.slice A5 fr.length c5) fr.length (cat (rowsOf vs5 fr)), .blk (w.heap.size + 1 + 1 + 1 + 1 + 1 + 1) #[.int .i64 0, .slice none 0 0] 25, .blk (w.heap.size + 1 + 1 + 1 + 1 + 1) #[.int .i64 0, .int .i64 0] 30, .blk (w.heap.size + 1 + 1 + 1 + 1) #[.int .i64 0, .slice none 0 0] 25, .blk (w.heap.size + 1 + 1 + 1) #[.int .i64 0, .slice none 0 0] 25, .blk (w.heap.size + 1 + 1) #[.int .i64 m2, .slice Av (tt.length + k) cv] 25, .blk (w.heap.size + 1) #[.int .i64 v.k, .int .i64 v.n] 30, .blk w.heap.size #[.int .i64 m, .slice A5 fr.length c5] 25] := K'
              replace HT := Lib.hid T'
              replace HF := Lib.hid (HF.out.move K')
              replace HTt := Lib.hid (HTt.out.move K')
              replace Hl := Lib.hid (Hl.out.move (by decide) K')
              clear T' K'
              replace hz : W8.heap.size + 2 ≤ w3.heap.size := by omega
              replace hw : w.heap.size + 7 ≤ w3.heap.size := by omega
              obtain ⟨r_place, q_place, -, -, -, -, -, -, -, -, r_to, q_to, -⟩ := HT.out.rules
              have z_place : W8.heap.size + 1 < w3.heap.size := (HT.out.in_ 0 rfl rfl).2
              have z_to : w.heap.size + 1 + 1 < w3.heap.size := (HT.out.in_ 8 rfl rfl).2
              go_wp2_with fail
              clear r_place q_place r_to q_to z_place z_to
              obtain ⟨T', K'⟩ := HT.out.put 8 1 (.slice A7 (tt.length + k + 1) c7) rfl
              simp only [List.set_cons_succ, List.set_cons_zero, List.setIfInBounds_toArray] at T' K'
              replace HT := Lib.hid T'
              replace HF := Lib.hid (HF.out.move K')
              replace HTt := Lib.hid (HTt.out.move K')
              replace Hl := Lib.hid (Hl.out.move (by decide) K')
              clear T' K'
              replace hw : w.heap.size + 1 + 1 + 1 + 1 + 1 + 1 + 1 ≤ ((w3.setCell ⟨w.heap.size + 1 + 1, 1, none⟩ (.slice A7 (tt.length + k + 1) c7))).heap.size := by simpa using hw
              replace hz : W8.heap.size + 2 ≤ ((w3.setCell ⟨w.heap.size + 1 + 1, 1, none⟩ (.slice A7 (tt.length + k + 1) c7))).heap.size := by simpa using hz
              generalize w3.setCell ⟨w.heap.size + 1 + 1, 1, none⟩ (.slice A7 (tt.length + k + 1) c7) = w4 at *
              go_roundw
              case rel =>
                have hrep : tt ++ List.replicate (k + 1) (⟨[], false⟩ : Ob) = (tt ++ List.replicate k ⟨[], false⟩) ++ [⟨[], false⟩] := by rw [List.replicate_succ', List.append_assoc]
                refine ⟨k + 1, .slice A7 (tt.length + k + 1) c7, css ++ [[Value.slice none 0 0, Value.bool false]], by omega, by go_num, ?_, ?_, HF.out, Hl.out, hz, hw⟩
                · exact HT.out
                · rw [hrep]
                  exact HTt.out.append (Held.single (E := obE) (cs := [.slice none 0 0, .bool false]) (x := ⟨[], false⟩) rfl ⟨_, rfl, RdSl.nil⟩)
              case measure => simp [intOf]; omega
        · have hkk : k = l.length := by omega
          subst hkk
          obtain ⟨Av, cv, rfl⟩ := own_form (HT.out.own 2 rfl)
          simp only [List.take_length] at HT HTt HF Hl
          rw [← partC_zero fr] at HTt
          clear hk hlt
          obtain ⟨r_place, q_place, -, -, -, -, -, -, -, -, r_to, q_to, -, -, r_from, q_from, -⟩ := HT.out.rules
          have z_place : W8.heap.size + 1 < wr.heap.size := (HT.out.in_ 0 rfl rfl).2
          have z_to : w.heap.size + 1 + 1 < wr.heap.size := (HT.out.in_ 8 rfl rfl).2
          have z_from : w.heap.size < wr.heap.size := (HT.out.in_ 10 rfl rfl).2
          go_wp2_with fail
          clear r_place q_place r_to q_to r_from q_from z_place z_to z_from
          go_loopw [94] (fun i wq => ∃ (k : Nat) (css : List (List Value)), k ≤ l.length ∧ i = .int .i64 k ∧ St w.heap.size w wq [.blk (W8.heap.size + 1) #[.map (some W8.heap.size)] 61, mapR Try.prog 3 3 (.int .i64 0) W8.heap.size l.length (fun x => .int .i64 (plM tt.length l x)), .row w.heap.size 41 2 (.slice Av (tt.length + l.length) cv) (tt.length + l.length) (cat css), .row w.heap.size 41 2 (.slice A5 fr.length c5) fr.length (cat (rowsOf vs5 fr)), .blk (w.heap.size + 1 + 1 + 1 + 1 + 1 + 1) #[.int .i64 0, .slice none 0 0] 25, .blk (w.heap.size + 1 + 1 + 1 + 1 + 1) #[.int .i64 0, .int .i64 0] 30, .blk (w.heap.size + 1 + 1 + 1 + 1) #[.int .i64 0, .slice none 0 0] 25, .blk (w.heap.size + 1 + 1 + 1) #[.int .i64 0, .slice none 0 0] 25, .blk (w.heap.size + 1 + 1) #[.int .i64 m2, .slice Av (tt.length + l.length) cv] 25, .blk (w.heap.size + 1) #[.int .i64 v.k, .int .i64 v.n] 30, .blk w.heap.size #[.int .i64 m, .slice A5 fr.length c5] 25] ∧ Held obE wq (Fr w.heap.size [.blk (W8.heap.size + 1) #[.map (some W8.heap.size)] 61, mapR Try.prog 3 3 (.int .i64 0) W8.heap.size l.length (fun x => .int .i64 (plM tt.length l x)), .row w.heap.size 41 2 (.slice Av (tt.length + l.length) cv) (tt.length + l.length) (cat css), .row w.heap.size 41 2 (.slice A5 fr.length c5) fr.length (cat (rowsOf vs5 fr)), .blk (w.heap.size + 1 + 1 + 1 + 1 + 1 + 1) #[.int .i64 0, .slice none 0 0] 25, .blk (w.heap.size + 1 + 1 + 1 + 1 + 1) #[.int .i64 0, .int .i64 0] 30, .blk (w.heap.size + 1 + 1 + 1 + 1) #[.int .i64 0, .slice none 0 0] 25, .blk (w.heap.size + 1 + 1 + 1) #[.int .i64 0, .slice none 0 0] 25, .blk (w.heap.size + 1 + 1) #[.int .i64 m2, .slice Av (tt.length + l.length) cv] 25, .blk (w.heap.size + 1) #[.int .i64 v.k, .int .i64 v.n] 30, .blk w.heap.size #[.int .i64 m, .slice A5 fr.length c5] 25]) css (partC fr tt l k) ∧ Held obE wq (Fr w.heap.size [.blk (W8.heap.size + 1) #[.map (some W8.heap.size)] 61, mapR Try.prog 3 3 (.int .i64 0) W8.heap.size l.length (fun x => .int .i64 (plM tt.length l x)), .row w.heap.size 41 2 (.slice Av (tt.length + l.length) cv) (tt.length + l.length) (cat css), .row w.heap.size 41 2 (.slice A5 fr.length c5) fr.length (cat (rowsOf vs5 fr)), .blk (w.heap.size + 1 + 1 + 1 + 1 + 1 + 1) #[.int .i64 0, .slice none 0 0] 25, .blk (w.heap.size + 1 + 1 + 1 + 1 + 1) #[.int .i64 0, .int .i64 0] 30, .blk (w.heap.size + 1 + 1 + 1 + 1) #[.int .i64 0, .slice none 0 0] 25, .blk (w.heap.size + 1 + 1 + 1) #[.int .i64 0, .slice none 0 0] 25, .blk (w.heap.size + 1 + 1) #[.int .i64 m2, .slice Av (tt.length + l.length) cv] 25, .blk (w.heap.size + 1) #[.int .i64 v.k, .int .i64 v.n] 30, .blk w.heap.size #[.int .i64 m, .slice A5 fr.length c5] 25]) (rowsOf vs5 fr) fr ∧ RdSl iE wq (Fr 0 [.blk (W8.heap.size + 1) #[.map (some W8.heap.size)] 61, mapR Try.prog 3 3 (.int .i64 0) W8.heap.size l.length (fun x => .int .i64 (plM tt.length l x)), .row w.heap.size 41 2 (.slice Av (tt.length + l.length) cv) (tt.length + l.length) (cat css), .row w.heap.size 41 2 (.slice A5 fr.length c5) fr.length (cat (rowsOf vs5 fr)), .blk (w.heap.size + 1 + 1 + 1 + 1 + 1 + 1) #[.int .i64 0, .slice none 0 0] 25, .blk (w.heap.size + 1 + 1 + 1 + 1 + 1) #[.int .i64 0, .int .i64 0] 30, .blk (w.heap.size + 1 + 1 + 1 + 1) #[.int .i64 0, .slice none 0 0] 25, .blk (w.heap.size + 1 + 1 + 1) #[.int .i64 0, .slice none 0 0] 25, .blk (w.heap.size + 1 + 1) #[.int .i64 m2, .slice Av (tt.length + l.length) cv] 25, .blk (w.heap.size + 1) #[.int .i64 v.k, .int .i64 v.n] 30, .blk w.heap.size #[.int .i64 m, .slice A5 fr.length c5] 25]) (.slice R3 l.length c3) l ∧ W8.heap.size + 2 ≤ wq.heap.size ∧ w.heap.size + 7 ≤ wq.heap.size) (fun i _ => l.length - (intOf i).toNat)
          case atStart => exact ⟨0, css, Nat.zero_le _, rfl, HT.out, HTt.out, HF.out, Hl.out, hz, hw⟩
          case round =>
            generalize wr = wq at *
            clear HT HF HTt Hl hz hw
            clear css
            obtain ⟨k, css, hk, rfl, ht, htt, hf, hl, hz, hw⟩ := hrel
            have HT := Lib.hid ht
            have HTt := Lib.hid htt
            have HF := Lib.hid hf
            have Hl := Lib.hid hl
            clear ht htt hf hl
            by_cases hlt : k < l.length
            · obtain ⟨x, hx⟩ : ∃ x, l[k]? = some x := ⟨l[k], List.getElem?_eq_getElem hlt⟩
              have hxw := Htold.out.within x (List.mem_of_getElem? hx)
              obtain ⟨j, rfl⟩ : ∃ j : Nat, x = (j : Int) := ⟨x.toNat, by omega⟩
              obtain ⟨b, o, rfl, _, _, y0⟩ := Hl.out.at_i hx
              have hjl : j < fr.length := by omega
              have hob : fr[j]? = some fr[j] := List.getElem?_eq_getElem hjl
              obtain ⟨Bf, df, hcf, hfd⟩ := HF.out.at_o hob
              have hfo : fieldsOf fr (j : Int) = (fr[j]).fields := by simp [fieldsOf, hob]
              generalize fr[j] = ob at *
              obtain ⟨g5, rfl, _⟩ := own_pos (HT.out.own 3 rfl) (by omega)
              obtain ⟨gT, rfl, _⟩ := own_pos (HT.out.own 2 rfl) (by omega)
              have yf := HT.out.rowCell 3 rfl HF.out.size (j := 0) hcf rfl
              rw [Nat.add_zero] at yf
              have zg5 : g5 < wq.heap.size := (own_lt (HT.out.own 3 rfl) rfl).1
              have Hfd := Lib.hid hfd
              have HX := Lib.hid hx
              have Hfo := Lib.hid hfo
              have Hplm := Lib.hid (plM_at (n := tt.length) Htold.out.nodup hx)
              obtain ⟨-, hf1, hf2, hf3⟩ := hfd.lims
              have hf4 : ob.fields.length * 16 ≤ 140737488355328 := hf3
              have hwf := wf60 (i := (j : Int)) (by omega)
              clear hx hfd hob hcf hfo hf3
              have i1 : (0 : Int) ≤ (k : Int) := by omega
              have i2 : (k : Int) < (l.length : Int) := by omega
              have i3 : (0 : Int) ≤ (j : Int) := by omega
              have i4 : (j : Int) < (fr.length : Int) := by omega
              obtain ⟨r_place, q_place, -, -, -, -, -, -, -, -, r_to, q_to, -, -, r_from, q_from, -⟩ := HT.out.rules
              have z_place : W8.heap.size + 1 < wq.heap.size := (HT.out.in_ 0 rfl rfl).2
              have z_to : w.heap.size + 1 + 1 < wq.heap.size := (HT.out.in_ 8 rfl rfl).2
              have z_from : w.heap.size < wq.heap.size := (HT.out.in_ 10 rfl rfl).2
              have hzq := hz
              go_wp2_with fail
              obtain ⟨T', K'⟩ := HT.out.new' #[.slice none 0 0, .bool false] 41 wq.heap.size (by first | (simp; done) | rfl)
              replace HT := Lib.hid T'
              replace HF := Lib.hid (HF.out.move K')
              replace HTt := Lib.hid (HTt.out.move K')
              replace Hl := Lib.hid (Hl.out.move (by decide) K')
              replace Hfd := Lib.hid (Hfd.out.move (by decide) K')
              clear T' K'
              replace hz : W8.heap.size + 2 ≤ ((wq.alloc (.cells #[.slice none 0 0, .bool false] 41))).heap.size := Nat.le_trans hz (by simp)
              replace hw : w.heap.size + 7 ≤ ((wq.alloc (.cells #[.slice none 0 0, .bool false] 41))).heap.size := Nat.le_trans hw (by simp)
              obtain ⟨T', K'⟩ := HT.out.nilRow w.heap.size 30 2
              replace HT := Lib.hid T'
              replace HF := Lib.hid (HF.out.move K')
              replace HTt := Lib.hid (HTt.out.move K')
              replace Hl := Lib.hid (Hl.out.move (by decide) K')
              replace Hfd := Lib.hid (Hfd.out.move (by decide) K')
              clear T' K'
              clear r_place q_place r_to q_to r_from q_from z_place z_to z_from
              generalize (wq.alloc (.cells #[.slice none 0 0, .bool false] 41)) = wi at *
              replace hz : wq.heap.size + 1 ≤ wi.heap.size := (HT.out.in_ 1 rfl rfl).2
              clear yf y0
              go_loopw [106] (fun i wp => ∃ (p : Nat) (vo : Value), p ≤ ob.fields.length ∧ i = .int .i64 p ∧ St w.heap.size w wp [.row w.heap.size 30 2 vo p (cat (vcs ((ob.fields.map (newV (plM tt.length l))).take p))), .blk wq.heap.size #[vo, .bool false] 41, .blk (W8.heap.size + 1) #[.map (some W8.heap.size)] 61, mapR Try.prog 3 3 (.int .i64 0) W8.heap.size l.length (fun x => .int .i64 (plM tt.length l x)), .row w.heap.size 41 2 (.slice (some ⟨gT, 0, none⟩) (tt.length + l.length) cv) (tt.length + l.length) (cat css), .row w.heap.size 41 2 (.slice (some ⟨g5, 0, none⟩) fr.length c5) fr.length (cat (rowsOf vs5 fr)), .blk (w.heap.size + 1 + 1 + 1 + 1 + 1 + 1) #[.int .i64 0, .slice none 0 0] 25, .blk (w.heap.size + 1 + 1 + 1 + 1 + 1) #[.int .i64 0, .int .i64 0] 30, .blk (w.heap.size + 1 + 1 + 1 + 1) #[.int .i64 0, .slice none 0 0] 25, .blk (w.heap.size + 1 + 1 + 1) #[.int .i64 0, .slice none 0 0] 25, .blk (w.heap.size + 1 + 1) #[.int .i64 m2, .slice (some ⟨gT, 0, none⟩) (tt.length + l.length) cv] 25, .blk (w.heap.size + 1) #[.int .i64 v.k, .int .i64 v.n] 30, .blk w.heap.size #[.int .i64 m, .slice (some ⟨g5, 0, none⟩) fr.length c5] 25] ∧ Held obE wp (Fr w.heap.size [.row w.heap.size 30 2 vo p (cat (vcs ((ob.fields.map (newV (plM tt.length l))).take p))), .blk wq.heap.size #[vo, .bool false] 41, .blk (W8.heap.size + 1) #[.map (some W8.heap.size)] 61, mapR Try.prog 3 3 (.int .i64 0) W8.heap.size l.length (fun x => .int .i64 (plM tt.length l x)), .row w.heap.size 41 2 (.slice (some ⟨gT, 0, none⟩) (tt.length + l.length) cv) (tt.length + l.length) (cat css), .row w.heap.size 41 2 (.slice (some ⟨g5, 0, none⟩) fr.length c5) fr.length (cat (rowsOf vs5 fr)), .blk (w.heap.size + 1 + 1 + 1 + 1 + 1 + 1) #[.int .i64 0, .slice none 0 0] 25, .blk (w.heap.size + 1 + 1 + 1 + 1 + 1) #[.int .i64 0, .int .i64 0] 30, .blk (w.heap.size + 1 + 1 + 1 + 1) #[.int .i64 0, .slice none 0 0] 25, .blk (w.heap.size + 1 + 1 + 1) #[.int .i64 0, .slice none 0 0] 25, .blk (w.heap.size + 1 + 1) #[.int .i64 m2, .slice (some ⟨gT, 0, none⟩) (tt.length + l.length) cv] 25, .blk (w.heap.size + 1) #[.int .i64 v.k, .int .i64 v.n] 30, .blk w.heap.size #[.int .i64 m, .slice (some ⟨g5, 0, none⟩) fr.length c5] 25]) css (partC fr tt l k) ∧ Held obE wp (Fr w.heap.size [.row w.heap.size 30 2 vo p (cat (vcs ((ob.fields.map (newV (plM tt.length l))).take p))), .blk wq.heap.size #[vo, .bool false] 41, .blk (W8.heap.size + 1) #[.map (some W8.heap.size)] 61, mapR Try.prog 3 3 (.int .i64 0) W8.heap.size l.length (fun x => .int .i64 (plM tt.length l x)), .row w.heap.size 41 2 (.slice (some ⟨gT, 0, none⟩) (tt.length + l.length) cv) (tt.length + l.length) (cat css), .row w.heap.size 41 2 (.slice (some ⟨g5, 0, none⟩) fr.length c5) fr.length (cat (rowsOf vs5 fr)), .blk (w.heap.size + 1 + 1 + 1 + 1 + 1 + 1) #[.int .i64 0, .slice none 0 0] 25, .blk (w.heap.size + 1 + 1 + 1 + 1 + 1) #[.int .i64 0, .int .i64 0] 30, .blk (w.heap.size + 1 + 1 + 1 + 1) #[.int .i64 0, .slice none 0 0] 25, .blk (w.heap.size + 1 + 1 + 1) #[.int .i64 0, .slice none 0 0] 25, .blk (w.heap.size + 1 + 1) #[.int .i64 m2, .slice (some ⟨gT, 0, none⟩) (tt.length + l.length) cv] 25, .blk (w.heap.size + 1) #[.int .i64 v.k, .int .i64 v.n] 30, .blk w.heap.size #[.int .i64 m, .slice (some ⟨g5, 0, none⟩) fr.length c5] 25]) (rowsOf vs5 fr) fr ∧ RdSl iE wp (Fr 0 [.row w.heap.size 30 2 vo p (cat (vcs ((ob.fields.map (newV (plM tt.length l))).take p))), .blk wq.heap.size #[vo, .bool false] 41, .blk (W8.heap.size + 1) #[.map (some W8.heap.size)] 61, mapR Try.prog 3 3 (.int .i64 0) W8.heap.size l.length (fun x => .int .i64 (plM tt.length l x)), .row w.heap.size 41 2 (.slice (some ⟨gT, 0, none⟩) (tt.length + l.length) cv) (tt.length + l.length) (cat css), .row w.heap.size 41 2 (.slice (some ⟨g5, 0, none⟩) fr.length c5) fr.length (cat (rowsOf vs5 fr)), .blk (w.heap.size + 1 + 1 + 1 + 1 + 1 + 1) #[.int .i64 0, .slice none 0 0] 25, .blk (w.heap.size + 1 + 1 + 1 + 1 + 1) #[.int .i64 0, .int .i64 0] 30, .blk (w.heap.size + 1 + 1 + 1 + 1) #[.int .i64 0, .slice none 0 0] 25, .blk (w.heap.size + 1 + 1 + 1) #[.int .i64 0, .slice none 0 0] 25, .blk (w.heap.size + 1 + 1) #[.int .i64 m2, .slice (some ⟨gT, 0, none⟩) (tt.length + l.length) cv] 25, .blk (w.heap.size + 1) #[.int .i64 v.k, .int .i64 v.n] 30, .blk w.heap.size #[.int .i64 m, .slice (some ⟨g5, 0, none⟩) fr.length c5] 25]) (.slice (some ⟨b, o, none⟩) l.length c3) l ∧ RdSl vE wp (Fr w.heap.size [.row w.heap.size 30 2 vo p (cat (vcs ((ob.fields.map (newV (plM tt.length l))).take p))), .blk wq.heap.size #[vo, .bool false] 41, .blk (W8.heap.size + 1) #[.map (some W8.heap.size)] 61, mapR Try.prog 3 3 (.int .i64 0) W8.heap.size l.length (fun x => .int .i64 (plM tt.length l x)), .row w.heap.size 41 2 (.slice (some ⟨gT, 0, none⟩) (tt.length + l.length) cv) (tt.length + l.length) (cat css), .row w.heap.size 41 2 (.slice (some ⟨g5, 0, none⟩) fr.length c5) fr.length (cat (rowsOf vs5 fr)), .blk (w.heap.size + 1 + 1 + 1 + 1 + 1 + 1) #[.int .i64 0, .slice none 0 0] 25, .blk (w.heap.size + 1 + 1 + 1 + 1 + 1) #[.int .i64 0, .int .i64 0] 30, .blk (w.heap.size + 1 + 1 + 1 + 1) #[.int .i64 0, .slice none 0 0] 25, .blk (w.heap.size + 1 + 1 + 1) #[.int .i64 0, .slice none 0 0] 25, .blk (w.heap.size + 1 + 1) #[.int .i64 m2, .slice (some ⟨gT, 0, none⟩) (tt.length + l.length) cv] 25, .blk (w.heap.size + 1) #[.int .i64 v.k, .int .i64 v.n] 30, .blk w.heap.size #[.int .i64 m, .slice (some ⟨g5, 0, none⟩) fr.length c5] 25]) (.slice Bf ob.fields.length df) ob.fields ∧ wq.heap.size + 1 ≤ wp.heap.size ∧ w.heap.size + 7 ≤ wp.heap.size) (fun i _ => ob.fields.length - (intOf i).toNat)
              case atStart => exact ⟨0, .slice none 0 0, Nat.zero_le _, rfl, HT.out, HTt.out, HF.out, Hl.out, Hfd.out, hz, hw⟩
              case round =>
                generalize wr = wp at *
                clear HT HF HTt Hl Hfd hz hw
                obtain ⟨p, vo, hp, rfl, ht, htt, hf, hl, hfd, hz, hw⟩ := hrel
                have HT := Lib.hid ht
                have HTt := Lib.hid htt
                have HF := Lib.hid hf
                have Hl := Lib.hid hl
                have Hfd := Lib.hid hfd
                clear ht htt hf hl hfd
                obtain ⟨Ao, co, rfl⟩ := own_form (HT.out.own 0 rfl)
                by_cases hpl : p < ob.fields.length
                · obtain ⟨x, hx⟩ : ∃ x, ob.fields[p]? = some x := ⟨ob.fields[p], List.getElem?_eq_getElem hpl⟩
                  obtain ⟨b', o', rfl, _, hbs, y0, y1⟩ := Hfd.out.at_v hx
                  have HX2 := Lib.hid hx
                  clear hx
                  have i5 : (0 : Int) ≤ (p : Int) := by omega
                  have i6 : (p : Int) < (ob.fields.length : Int) := by omega
                  have hrefx : Hid (x.k = 2 → 0 ≤ x.n ∧ x.n < 60) := fun h => by
                    have h1 := refs_fields Hok.out.fields (j : Int) x (by rw [Hfo.out]; exact List.mem_of_getElem? HX2.out) h
                    omega
                  obtain ⟨r_ob, q_ob, r_place, q_place, -⟩ := HT.out.rules
                  have z_ob : wq.heap.size < wp.heap.size := (HT.out.in_ 1 rfl rfl).2
                  have z_place : W8.heap.size + 1 < wp.heap.size := (HT.out.in_ 2 rfl rfl).2
                  go_wp2_with fail
                  obtain ⟨T', K'⟩ := HT.out.new' #[.int .i64 x.k, .int .i64 x.n] 30 wp.heap.size (by first | (simp; done) | rfl)
                  replace HT := Lib.hid T'
                  replace HF := Lib.hid (HF.out.move K')
                  replace HTt := Lib.hid (HTt.out.move K')
                  replace Hl := Lib.hid (Hl.out.move (by decide) K')
                  replace Hfd := Lib.hid (Hfd.out.move (by decide) K')
                  clear T' K'
                  replace hz : wq.heap.size + 1 ≤ ((wp.alloc (.cells #[.int .i64 x.k, .int .i64 x.n] 30))).heap.size := Nat.le_trans hz (by simp)
                  replace hw : w.heap.size + 7 ≤ ((wp.alloc (.cells #[.int .i64 x.k, .int .i64 x.n] 30))).heap.size := Nat.le_trans hw (by simp)
                  clear r_ob q_ob r_place q_place z_ob z_place
                  generalize (wp.alloc (.cells #[.int .i64 x.k, .int .i64 x.n] 30)) = wa at *
                  have hzx : wp.heap.size + 1 ≤ wa.heap.size := (HT.out.in_ 0 rfl rfl).2
                  clear y0 y1
                  obtain ⟨r_x, q_x, r_ob, q_ob, r_place, q_place, -⟩ := HT.out.rules
                  have z_x : wp.heap.size < wa.heap.size := (HT.out.in_ 0 rfl rfl).2
                  have z_ob : wq.heap.size < wa.heap.size := (HT.out.in_ 2 rfl rfl).2
                  have z_place : W8.heap.size + 1 < wa.heap.size := (HT.out.in_ 3 rfl rfl).2
                  refine wp_region_plan [.still [0, 1, 2, 3], .loud 4 [0, 1], .loud 5 [0, 1], .loud 6 [], .still [7], .loud 8 []] (by kernel_rfl) (by kernel_rfl) ?_
                  refine plan_still ?_
                  simp only [pick, List.getElem?_toArray, List.getElem?_cons_succ, List.getElem?_cons_zero]
                  repeat still_step
                  refine wpStill_nil ?_
                  refine plan_loud ?_
                  simp only [pick, List.getElem?_toArray, List.getElem?_cons_succ, List.getElem?_cons_zero]
                  go_wp2_with fail
                  obtain ⟨T', K'⟩ := HT.out.drew'
                  replace HT := Lib.hid T'
                  replace HF := Lib.hid (HF.out.move K')
                  replace HTt := Lib.hid (HTt.out.move K')
                  replace Hl := Lib.hid (Hl.out.move (by decide) K')
                  replace Hfd := Lib.hid (Hfd.out.move (by decide) K')
                  clear T' K'
                  replace hz : wq.heap.size + 1 ≤ wa.drew.heap.size := hz
                  replace hw : w.heap.size + 7 ≤ wa.drew.heap.size := hw
                  have hmp := Lib.hid (HT.out.map 4 rfl)
                  refine (there_any (plM tt.length l) (W8.heap.size + 1) W8.heap.size l.length x _ (cell_of_row _ _ 0 _ _ _ (HT.out.heap 3 rfl)) hmp.out hrefx.out).mono ?_
                  rintro e wb ⟨rfl, hb⟩
                  clear r_x q_x r_ob q_ob r_place q_place z_x z_ob z_place
                  obtain ⟨T', K'⟩ := HT.out.call hb
                  replace HT := Lib.hid T'
                  replace HF := Lib.hid (HF.out.move K')
                  replace HTt := Lib.hid (HTt.out.move K')
                  replace Hl := Lib.hid (Hl.out.move (by decide) K')
                  replace Hfd := Lib.hid (Hfd.out.move (by decide) K')
                  clear T' K'
                  replace hz : wq.heap.size + 1 ≤ wb.heap.size := Nat.le_trans hz hb.size
                  replace hw : w.heap.size + 7 ≤ wb.heap.size := Nat.le_trans hw hb.size
                  clear hb
                  obtain ⟨r_x, q_x, r_ob, q_ob, r_place, q_place, -⟩ := HT.out.rules
                  have z_x : wp.heap.size < wb.heap.size := (HT.out.in_ 0 rfl rfl).2
                  have z_ob : wq.heap.size < wb.heap.size := (HT.out.in_ 2 rfl rfl).2
                  have z_place : W8.heap.size + 1 < wb.heap.size := (HT.out.in_ 3 rfl rfl).2
                  clear hmp
                  go_wp2_with fail
                  refine ⟨?_, ?_⟩
                  · simp only [Again, pick, List.getElem?_toArray, List.getElem?_cons_succ, List.getElem?_cons_zero]
                    refine ⟨?_, ?_, trivial⟩
                    all_goals (still_step; exact wpStill_nil rfl)
                  refine plan_loud ?_
                  simp only [pick, List.getElem?_toArray, List.getElem?_cons_succ, List.getElem?_cons_zero]
                  go_wp2_with fail
                  have hbo : wq.heap.size < wb.heap.size := by omega
                  refine ⟨?_, ?_⟩
                  · simp only [Again, pick, List.getElem?_toArray, List.getElem?_cons_succ, List.getElem?_cons_zero]
                    refine ⟨?_, ?_, trivial⟩
                    all_goals (still_step; exact wpStill_nil rfl)
                  refine plan_loud ?_
                  simp only [pick, List.getElem?_toArray, List.getElem?_cons_succ, List.getElem?_cons_zero]
                  go_wp2_with (at_builtin; go_loud (refine wpList_append_css rfl (.tmp 111) (.tmp 115) _ rfl (e := 30) (size := 2) (bytes := 16) Try.underlying26 infoV rfl (by omega) HT.out 1 rfl rfl [.int .i64 (newV (plM tt.length l) x).k, .int .i64 (newV (plM tt.length l) x).n] 30 rfl rfl (by simp [Value.oneCell']) (by unfold maxLen; omega) (by omega) (by omega) ?next))
                  case next =>
                    intro A7 c7 wc T' K' hs3
                    clear r_x q_x r_ob q_ob r_place q_place z_x z_ob z_place
                    replace T' : St w.heap.size w wc [.blk wp.heap.size #[.int .i64 x.k, .int .i64 x.n] 30, .row w.heap.size 30 2 (.slice A7 (p + 1) c7) (p + 1) (cat (vcs ((ob.fields.map (newV (plM tt.length l))).take p) ++ [[Value.int .i64 (newV (plM tt.length l) x).k, Value.int .i64 (newV (plM tt.length l) x).n]])), .blk wq.heap.size #[.slice Ao p co, .bool false] 41, .blk (W8.heap.size + 1) #[.map (some W8.heap.size)] 61, mapR Try.prog 3 3 (.int .i64 0) W8.heap.size l.length (fun x => .int .i64 (plM tt.length l x)), .row w.heap.size 41 2 (.slice (some ⟨gT, 0, none⟩) (tt.length + l.length) cv) (tt.length + l.length) (cat css), .row w.heap.size 41 2 (.slice (some ⟨g5, 0, none⟩) fr.length c5) fr.length (cat (rowsOf vs5 fr)), .blk (w.heap.size + 1 + 1 + 1 + 1 + 1 + 1) #[.int .i64 0, .slice none 0 0] 25, .blk (w.heap.size + 1 + 1 + 1 + 1 + 1) #[.int .i64 0, .int .i64 0] 30, .blk (w.heap.size + 1 + 1 + 1 + 1) #[.int .i64 0, .slice none 0 0] 25, .blk (w.heap.size + 1 + 1 + 1) #[.int .i64 0, .slice none 0 0] 25, .blk (w.heap.size + 1 + 1) #[.int .i64 m2, .slice (some ⟨gT, 0, none⟩) (tt.length + l.length) cv] 25, .blk (w.heap.size + 1) #[.int .i64 v.k, .int .i64 v.n] 30, .blk w.heap.size #[.int .i64 m, .slice (some ⟨g5, 0, none⟩) fr.length c5] 25] := T'
                    replace K' : Keeps wb [.blk wp.heap.size #[.int .i64 x.k, .int .i64 x.n] 30, .row w.heap.size 30 2 (.slice Ao p co) p (cat (vcs ((ob.fields.map (newV (plM tt.length l))).take p))), .blk wq.heap.size #[.slice Ao p co, .bool false] 41, .blk (W8.heap.size + 1) #[.map (some W8.heap.size)] 61, mapR Try.prog 3 3 (.int .i64 0) W8.heap.size l.length (fun x => .int .i64 (plM tt.length l x)), .row w.heap.size 41 2 (.slice (some ⟨gT, 0, none⟩) (tt.length + l.length) cv) (tt.length + l.length) (cat css), .row w.heap.size 41 2 (.slice (some ⟨g5, 0, none⟩) fr.length c5) fr.length (cat (rowsOf vs5 fr)), .blk (w.heap.size + 1 + 1 + 1 + 1 + 1 + 1) #[.int .i64 0, .slice none 0 0] 25, .blk (w.heap.size + 1 + 1 + 1 + 1 + 1) #[.int .i64 0, .int .i64 0] 30, .blk (w.heap.size + 1 + 1 + 1 + 1) #[.int .i64 0, .slice none 0 0] 25, .blk (w.heap.size + 1 + 1 + 1) #[.int .i64 0, .slice none 0 0] 25, .blk (w.heap.size + 1 + 1) #[.int .i64 m2, .slice (some ⟨gT, 0, none⟩) (tt.length + l.length) cv] 25, .blk (w.heap.size + 1) #[.int .i64 v.k, .int .i64 v.n] 30, .blk w.heap.size #[.int .i64 m, .slice (some ⟨g5, 0, none⟩) fr.length c5] 25] wc [.blk wp.heap.size #[.int .i64 x.k, .int .i64 x.n] 30, .row w.heap.size 30 2 (.slice A7 (p + 1) c7) (p + 1) (cat (vcs ((ob.fields.map (newV (plM tt.length l))).take p) ++ [[Value.int .i64 (newV (plM tt.length l) x).k, Value.int .i64 (newV (plM tt.length l) x).n]])), .blk wq.heap.size #[.slice Ao p co, .bool false] 41, .blk (W8.heap.size + 1) #[.map (some W8.heap.size)] 61, mapR Try.prog 3 3 (.int .i64 0) W8.heap.size l.length (fun x => .int .i64 (plM tt.length l x)), .row w.heap.size 41 2 (.slice (some ⟨gT, 0, none⟩) (tt.length + l.length) cv) (tt.length + l.length) (cat css), .row w.heap.size 41 2 (.slice (some ⟨g5, 0, none⟩) fr.length c5) fr.length (cat (rowsOf vs5 fr)), .blk (w.heap.size + 1 + 1 + 1 + 1 + 1 + 1) #[.int .i64 0, .slice none 0 0] 25, .blk (w.heap.size + 1 + 1 + 1 + 1 + 1) #[.int .i64 0, .int .i64 0] 30, .blk (w.heap.size + 1 + 1 + 1 + 1) #[.int .i64 0, .slice none 0 0] 25, .blk (w.heap.size + 1 + 1 + 1) #[.int .i64 0, .slice none 0 0] 25, .blk (w.heap.size + 1 + 1) #[.int .i64 m2, .slice (some ⟨gT, 0, none⟩) (tt.length + l.length) cv] 25, .blk (w.heap.size + 1) #[.int .i64 v.k, .int .i64 v.n] 30, .blk w.heap.size #[.int .i64 m, .slice (some ⟨g5, 0, none⟩) fr.length c5] 25] := K'
                    have hvs : vcs ((ob.fields.map (newV (plM tt.length l))).take p) ++ [[Value.int .i64 (newV (plM tt.length l) x).k, Value.int .i64 (newV (plM tt.length l) x).n]] = vcs ((ob.fields.map (newV (plM tt.length l))).take (p + 1)) := by rw [vcs_snoc, List.take_add_one, List.getElem?_map, HX2.out]; rfl
                    rw [hvs] at T' K'
                    replace HT := Lib.hid T'
                    replace HF := Lib.hid (HF.out.move K')
                    replace HTt := Lib.hid (HTt.out.move K')
                    replace Hl := Lib.hid (Hl.out.move (by decide) K')
                    replace Hfd := Lib.hid (Hfd.out.move (by decide) K')
                    clear T' K' hvs
                    replace hz : wq.heap.size + 1 ≤ wc.heap.size := by omega
                    replace hw : w.heap.size + 7 ≤ wc.heap.size := by omega
                    obtain ⟨-, -, r_ob, q_ob, -⟩ := HT.out.rules
                    have z_ob : wq.heap.size < wc.heap.size := (HT.out.in_ 2 rfl rfl).2
                    go_wp2_with fail
                    refine ⟨trivial, ?_⟩
                    refine plan_still ?_
                    simp only [pick, List.getElem?_toArray, List.getElem?_cons_succ, List.getElem?_cons_zero]
                    repeat still_step
                    refine wpStill_nil ?_
                    refine plan_loud ?_
                    simp only [pick, List.getElem?_toArray, List.getElem?_cons_succ, List.getElem?_cons_zero]
                    go_wp2_with fail
                    clear r_ob q_ob z_ob
                    obtain ⟨T', K'⟩ := HT.out.put 2 0 (.slice A7 (p + 1) c7) rfl
                    simp only [List.set_cons_succ, List.set_cons_zero, List.setIfInBounds_toArray] at T' K'
                    replace HT := Lib.hid T'
                    replace HF := Lib.hid (HF.out.move K')
                    replace HTt := Lib.hid (HTt.out.move K')
                    replace Hl := Lib.hid (Hl.out.move (by decide) K')
                    replace Hfd := Lib.hid (Hfd.out.move (by decide) K')
                    clear T' K'
                    replace hz : wq.heap.size + 1 ≤ ((wc.setCell ⟨wq.heap.size, 0, none⟩ (.slice A7 (p + 1) c7))).heap.size := by simpa using hz
                    replace hw : w.heap.size + 7 ≤ ((wc.setCell ⟨wq.heap.size, 0, none⟩ (.slice A7 (p + 1) c7))).heap.size := by simpa using hw
                    generalize wc.setCell ⟨wq.heap.size, 0, none⟩ (.slice A7 (p + 1) c7) = wd at *
                    refine ⟨trivial, ?_⟩
                    refine plan_end (NoPanic.normal ?_)
                    obtain ⟨T', K'⟩ := HT.out.drop 0
                    simp only [List.eraseIdx_cons_zero] at T' K'
                    replace HT := Lib.hid T'
                    replace HF := Lib.hid (HF.out.move K')
                    replace HTt := Lib.hid (HTt.out.move K')
                    replace Hl := Lib.hid (Hl.out.move (by decide) K')
                    replace Hfd := Lib.hid (Hfd.out.move (by decide) K')
                    clear T' K'
                    go_wp2_with fail
                    go_roundw
                    case rel =>
                      refine ⟨p + 1, .slice A7 (p + 1) c7, by omega, by go_num, ?_, ?_, ?_, ?_, ?_, hz, hw⟩
                      · with_reducible exact HT.out
                      · with_reducible exact HTt.out
                      · with_reducible exact HF.out
                      · with_reducible exact Hl.out
                      · with_reducible exact Hfd.out
                    case measure => simp [intOf]; omega
                · have hpp : p = ob.fields.length := by omega
                  have htk : (ob.fields.map (newV (plM tt.length l))).take p = ob.fields.map (newV (plM tt.length l)) := List.take_of_length_le (by simp; omega)
                  simp only [htk] at HT HTt HF Hl Hfd
                  subst hpp
                  clear htk hpl
                  have hT0 := HT.out
                  have Hv := Lib.hid (HT.out.rdOut (E := vE) (n := w.heap.size) (xs := ob.fields.map (newV (plM tt.length l))) (css := vcs (ob.fields.map (newV (plM tt.length l)))) 0 rfl rfl (by simp) (vcs_held _) (by simpa [vE] using hf4) (Nat.le_refl _) (by decide))
                  clear hT0
                  obtain ⟨T', K'⟩ := HT.out.drop 0
                  simp only [List.eraseIdx_cons_zero] at T' K'
                  replace HT := Lib.hid T'
                  replace HF := Lib.hid (HF.out.move K')
                  replace HTt := Lib.hid (HTt.out.move K')
                  replace Hl := Lib.hid (Hl.out.move (by decide) K')
                  replace Hfd := Lib.hid (Hfd.out.move (by decide) K')
                  clear T' K'
                  replace Hv : Hid (RdSl vE wp (Fr w.heap.size [.blk wq.heap.size #[.slice Ao ob.fields.length co, .bool false] 41, .blk (W8.heap.size + 1) #[.map (some W8.heap.size)] 61, mapR Try.prog 3 3 (.int .i64 0) W8.heap.size l.length (fun x => .int .i64 (plM tt.length l x)), .row w.heap.size 41 2 (.slice (some ⟨gT, 0, none⟩) (tt.length + l.length) cv) (tt.length + l.length) (cat css), .row w.heap.size 41 2 (.slice (some ⟨g5, 0, none⟩) fr.length c5) fr.length (cat (rowsOf vs5 fr)), .blk (w.heap.size + 1 + 1 + 1 + 1 + 1 + 1) #[.int .i64 0, .slice none 0 0] 25, .blk (w.heap.size + 1 + 1 + 1 + 1 + 1) #[.int .i64 0, .int .i64 0] 30, .blk (w.heap.size + 1 + 1 + 1 + 1) #[.int .i64 0, .slice none 0 0] 25, .blk (w.heap.size + 1 + 1 + 1) #[.int .i64 0, .slice none 0 0] 25, .blk (w.heap.size + 1 + 1) #[.int .i64 m2, .slice (some ⟨gT, 0, none⟩) (tt.length + l.length) cv] 25, .blk (w.heap.size + 1) #[.int .i64 v.k, .int .i64 v.n] 30, .blk w.heap.size #[.int .i64 m, .slice (some ⟨g5, 0, none⟩) fr.length c5] 25]) (.slice Ao ob.fields.length co) (ob.fields.map (newV (plM tt.length l)))) := Hv
                  have hrun := (HT.out.map 2 rfl).lookup (.inr ⟨_, Try.underlying3⟩) Try.underlying3 Try.underlying61 (zeroI _) hwf
                  rw [Hplm.out] at hrun
                  have i7 : (0 : Int) ≤ ((tt.length + k : Nat) : Int) := by omega
                  have i8 : ((tt.length + k : Nat) : Int) < ((tt.length + l.length : Nat) : Int) := by omega
                  have qT := fun i => HT.out.rowFree 3 rfl i
                  have hck : tt.length + k < css.length := by rw [HTt.out.len, partC_len (by omega)]; omega
                  obtain ⟨ua, ub, hcs⟩ := HTt.out.two rfl hck
                  have yT0 := HT.out.rowCell 3 rfl HTt.out.size (j := 0) hcs rfl
                  have yT1 := HT.out.rowCell 3 rfl HTt.out.size (j := 1) hcs rfl
                  rw [Nat.add_zero] at yT0
                  have Hcs := Lib.hid hcs
                  clear hcs
                  obtain ⟨r_ob, q_ob, r_place, q_place, -, -, -, -, -, -, -, -, r_to, q_to, -⟩ := HT.out.rules
                  have z_ob : wq.heap.size < wp.heap.size := (HT.out.in_ 0 rfl rfl).2
                  have z_place : W8.heap.size + 1 < wp.heap.size := (HT.out.in_ 1 rfl rfl).2
                  have z_to : w.heap.size + 1 + 1 < wp.heap.size := (HT.out.in_ 9 rfl rfl).2
                  go_wp2_with fail
                  clear r_ob q_ob r_place q_place r_to q_to z_ob z_place z_to
                  clear qT hrun yT0 yT1
                  obtain ⟨T', K'⟩ := HT.out.rowPut2 3 (tt.length + k) (.slice Ao ob.fields.length co) (.bool false) rfl HTt.out.size hck
                  simp only [List.set_cons_succ, List.set_cons_zero] at T' K'
                  replace HT := Lib.hid T'
                  replace HF := Lib.hid (HF.out.move K')
                  replace HTt := Lib.hid (HTt.out.move K')
                  replace Hl := Lib.hid (Hl.out.move (by decide) K')
                  replace Hfd := Lib.hid (Hfd.out.move (by decide) K')
                  replace Hv := Lib.hid (Hv.out.move (by decide) K')
                  clear T' K'
                  replace hz : wq.heap.size + 1 ≤ (((wp.setCell ⟨gT, (tt.length + k) * 2, none⟩ (.slice Ao ob.fields.length co)).setCell ⟨gT, (tt.length + k) * 2 + 1, none⟩ (.bool false))).heap.size := by simpa using hz
                  replace hw : w.heap.size + 7 ≤ (((wp.setCell ⟨gT, (tt.length + k) * 2, none⟩ (.slice Ao ob.fields.length co)).setCell ⟨gT, (tt.length + k) * 2 + 1, none⟩ (.bool false))).heap.size := by simpa using hw
                  generalize (wp.setCell ⟨gT, (tt.length + k) * 2, none⟩ (.slice Ao ob.fields.length co)).setCell ⟨gT, (tt.length + k) * 2 + 1, none⟩ (.bool false) = we at *
                  have hset : Held obE we (Fr w.heap.size [.blk wq.heap.size #[.slice Ao ob.fields.length co, .bool false] 41, .blk (W8.heap.size + 1) #[.map (some W8.heap.size)] 61, mapR Try.prog 3 3 (.int .i64 0) W8.heap.size l.length (fun x => .int .i64 (plM tt.length l x)), .row w.heap.size 41 2 (.slice (some ⟨gT, 0, none⟩) (tt.length + l.length) cv) (tt.length + l.length) (cat (css.set (tt.length + k) [.slice Ao ob.fields.length co, .bool false])), .row w.heap.size 41 2 (.slice (some ⟨g5, 0, none⟩) fr.length c5) fr.length (cat (rowsOf vs5 fr)), .blk (w.heap.size + 1 + 1 + 1 + 1 + 1 + 1) #[.int .i64 0, .slice none 0 0] 25, .blk (w.heap.size + 1 + 1 + 1 + 1 + 1) #[.int .i64 0, .int .i64 0] 30, .blk (w.heap.size + 1 + 1 + 1 + 1) #[.int .i64 0, .slice none 0 0] 25, .blk (w.heap.size + 1 + 1 + 1) #[.int .i64 0, .slice none 0 0] 25, .blk (w.heap.size + 1 + 1) #[.int .i64 m2, .slice (some ⟨gT, 0, none⟩) (tt.length + l.length) cv] 25, .blk (w.heap.size + 1) #[.int .i64 v.k, .int .i64 v.n] 30, .blk w.heap.size #[.int .i64 m, .slice (some ⟨g5, 0, none⟩) fr.length c5] 25]) (css.set (tt.length + k) [.slice Ao ob.fields.length co, .bool false]) (partC fr tt l (k + 1)) := by
                    rw [← partC_set HX.out, Hfo.out]
                    exact HTt.out.set (tt.length + k) (x := ⟨ob.fields.map (newV (plM tt.length l)), false⟩) rfl ⟨_, rfl, by simpa using Hv.out⟩
                  replace HTt := Lib.hid hset
                  clear hset
                  obtain ⟨T', K'⟩ := HT.out.drop 0
                  simp only [List.eraseIdx_cons_zero] at T' K'
                  replace HT := Lib.hid T'
                  replace HF := Lib.hid (HF.out.move K')
                  replace HTt := Lib.hid (HTt.out.move K')
                  replace Hl := Lib.hid (Hl.out.move (by decide) K')
                  replace Hfd := Lib.hid (Hfd.out.move (by decide) K')
                  replace Hv := Lib.hid (Hv.out.move (by decide) K')
                  clear T' K'
                  replace hz : W8.heap.size + 2 ≤ we.heap.size := by omega
                  go_wp2_with fail
                  go_roundw
                  case rel =>
                    refine ⟨k + 1, css.set (tt.length + k) [.slice Ao ob.fields.length co, .bool false], by omega, by go_num, ?_, ?_, ?_, ?_, hz, hw⟩
                    · with_reducible exact HT.out
                    · with_reducible exact HTt.out
                    · with_reducible exact HF.out
                    · with_reducible exact Hl.out
                  case measure => simp [intOf]; omega
            · have hkk : k = l.length := by omega
              subst hkk
              clear hk hlt
              cases move
              · have hHF : Held obE wq (Fr w.heap.size [.blk (W8.heap.size + 1) #[.map (some W8.heap.size)] 61, mapR Try.prog 3 3 (.int .i64 0) W8.heap.size l.length (fun x => .int .i64 (plM tt.length l x)), .row w.heap.size 41 2 (.slice Av (tt.length + l.length) cv) (tt.length + l.length) (cat css), .row w.heap.size 41 2 (.slice A5 fr.length c5) fr.length (cat (rowsOf vs5 fr)), .blk (w.heap.size + 1 + 1 + 1 + 1 + 1 + 1) #[.int .i64 0, .slice none 0 0] 25, .blk (w.heap.size + 1 + 1 + 1 + 1 + 1) #[.int .i64 0, .int .i64 0] 30, .blk (w.heap.size + 1 + 1 + 1 + 1) #[.int .i64 0, .slice none 0 0] 25, .blk (w.heap.size + 1 + 1 + 1) #[.int .i64 0, .slice none 0 0] 25, .blk (w.heap.size + 1 + 1) #[.int .i64 m2, .slice Av (tt.length + l.length) cv] 25, .blk (w.heap.size + 1) #[.int .i64 v.k, .int .i64 v.n] 30, .blk w.heap.size #[.int .i64 m, .slice A5 fr.length c5] 25]) (rowsOf vs5 fr) (movedL fr []) := by rw [movedL_nil]; exact HF.out
                replace HF := Lib.hid hHF
                clear hHF
                obtain ⟨r_place, q_place, -, -, r_rV, q_rV, r_rB, q_rB, r_rA, q_rA, r_to, q_to, r_v, q_v, r_from, q_from, -⟩ := HT.out.rules
                have z_place : W8.heap.size + 1 < wq.heap.size := (HT.out.in_ 0 rfl rfl).2
                have z_rV : w.heap.size + 1 + 1 + 1 + 1 + 1 < wq.heap.size := (HT.out.in_ 5 rfl rfl).2
                have z_rB : w.heap.size + 1 + 1 + 1 + 1 < wq.heap.size := (HT.out.in_ 6 rfl rfl).2
                have z_rA : w.heap.size + 1 + 1 + 1 < wq.heap.size := (HT.out.in_ 7 rfl rfl).2
                have z_to : w.heap.size + 1 + 1 < wq.heap.size := (HT.out.in_ 8 rfl rfl).2
                have z_v : w.heap.size + 1 < wq.heap.size := (HT.out.in_ 9 rfl rfl).2
                have z_from : w.heap.size < wq.heap.size := (HT.out.in_ 10 rfl rfl).2
                go_wp2_with fail
                refine wp_region_plan [.still [0, 1, 2, 3], .loud 4 [0, 1], .loud 5 [1], .loud 6 [], .loud 7 [], .still [8]] (by kernel_rfl) (by kernel_rfl) ?_
                refine plan_still ?_
                simp only [pick, List.getElem?_toArray, List.getElem?_cons_succ, List.getElem?_cons_zero]
                repeat still_step
                refine wpStill_nil ?_
                refine plan_loud ?_
                simp only [pick, List.getElem?_toArray, List.getElem?_cons_succ, List.getElem?_cons_zero]
                go_wp2_with fail
                obtain ⟨T', K'⟩ := HT.out.drew'
                replace HT := Lib.hid T'
                replace HF := Lib.hid (HF.out.move K')
                replace HTt := Lib.hid (HTt.out.move K')
                replace Hl := Lib.hid (Hl.out.move (by decide) K')
                clear T' K'
                replace hz : W8.heap.size + 2 ≤ wq.drew.heap.size := hz
                replace hw : w.heap.size + 7 ≤ wq.drew.heap.size := hw
                have hmp := Lib.hid (HT.out.map 1 rfl)
                refine (there_any (plM tt.length l) (W8.heap.size + 1) W8.heap.size l.length v _ (cell_of_row _ _ 0 _ _ _ (HT.out.heap 0 rfl)) hmp.out (fun h => by have := Hok.out.roots v (by simp) h; omega)).mono ?_
                rintro e wf ⟨rfl, hb⟩
                clear r_place q_place r_rV q_rV r_rB q_rB r_rA q_rA r_to q_to r_v q_v r_from q_from z_place z_rV z_rB z_rA z_to z_v z_from
                obtain ⟨T', K'⟩ := HT.out.call hb
                replace HT := Lib.hid T'
                replace HF := Lib.hid (HF.out.move K')
                replace HTt := Lib.hid (HTt.out.move K')
                replace Hl := Lib.hid (Hl.out.move (by decide) K')
                clear T' K'
                replace hz : W8.heap.size + 2 ≤ wf.heap.size := Nat.le_trans hz hb.size
                replace hw : w.heap.size + 7 ≤ wf.heap.size := Nat.le_trans hw hb.size
                clear hb
                obtain ⟨r_place, q_place, -, -, r_rV, q_rV, r_rB, q_rB, r_rA, q_rA, r_to, q_to, r_v, q_v, r_from, q_from, -⟩ := HT.out.rules
                have z_place : W8.heap.size + 1 < wf.heap.size := (HT.out.in_ 0 rfl rfl).2
                have z_rV : w.heap.size + 1 + 1 + 1 + 1 + 1 < wf.heap.size := (HT.out.in_ 5 rfl rfl).2
                have z_rB : w.heap.size + 1 + 1 + 1 + 1 < wf.heap.size := (HT.out.in_ 6 rfl rfl).2
                have z_rA : w.heap.size + 1 + 1 + 1 < wf.heap.size := (HT.out.in_ 7 rfl rfl).2
                have z_to : w.heap.size + 1 + 1 < wf.heap.size := (HT.out.in_ 8 rfl rfl).2
                have z_v : w.heap.size + 1 < wf.heap.size := (HT.out.in_ 9 rfl rfl).2
                have z_from : w.heap.size < wf.heap.size := (HT.out.in_ 10 rfl rfl).2
                clear hmp
                go_wp2_with fail
                refine ⟨?_, ?_⟩
                · simp only [Again, pick, List.getElem?_toArray, List.getElem?_cons_succ, List.getElem?_cons_zero]
                  refine ⟨?_, ?_, trivial⟩
                  all_goals (still_step; exact wpStill_nil rfl)
                refine plan_loud ?_
                simp only [pick, List.getElem?_toArray, List.getElem?_cons_succ, List.getElem?_cons_zero]
                go_wp2_with fail
                clear r_place q_place r_rV q_rV r_rB q_rB r_rA q_rA r_to q_to r_v q_v r_from q_from z_place z_rV z_rB z_rA z_to z_v z_from
                obtain ⟨T', K'⟩ := HT.out.put2 7 (.int .i64 m) (.slice A5 fr.length c5) rfl rfl
                simp only [List.set_cons_succ, List.set_cons_zero] at T' K'
                replace HT := Lib.hid T'
                replace HF := Lib.hid (HF.out.move K')
                replace HTt := Lib.hid (HTt.out.move K')
                replace Hl := Lib.hid (Hl.out.move (by decide) K')
                clear T' K'
                replace hz : W8.heap.size + 2 ≤ (((wf.setCell ⟨w.heap.size + 1 + 1 + 1, 0, none⟩ (.int .i64 m)).setCell ⟨w.heap.size + 1 + 1 + 1, 1, none⟩ (.slice A5 fr.length c5))).heap.size := by simpa using hz
                replace hw : w.heap.size + 7 ≤ (((wf.setCell ⟨w.heap.size + 1 + 1 + 1, 0, none⟩ (.int .i64 m)).setCell ⟨w.heap.size + 1 + 1 + 1, 1, none⟩ (.slice A5 fr.length c5))).heap.size := by simpa using hw
                generalize (wf.setCell ⟨w.heap.size + 1 + 1 + 1, 0, none⟩ (.int .i64 m)).setCell ⟨w.heap.size + 1 + 1 + 1, 1, none⟩ (.slice A5 fr.length c5) = wg1 at *
                obtain ⟨r_place, q_place, -, -, r_rV, q_rV, r_rB, q_rB, r_rA, q_rA, r_to, q_to, r_v, q_v, r_from, q_from, -⟩ := HT.out.rules
                have z_place : W8.heap.size + 1 < wg1.heap.size := (HT.out.in_ 0 rfl rfl).2
                have z_rV : w.heap.size + 1 + 1 + 1 + 1 + 1 < wg1.heap.size := (HT.out.in_ 5 rfl rfl).2
                have z_rB : w.heap.size + 1 + 1 + 1 + 1 < wg1.heap.size := (HT.out.in_ 6 rfl rfl).2
                have z_rA : w.heap.size + 1 + 1 + 1 < wg1.heap.size := (HT.out.in_ 7 rfl rfl).2
                have z_to : w.heap.size + 1 + 1 < wg1.heap.size := (HT.out.in_ 8 rfl rfl).2
                have z_v : w.heap.size + 1 < wg1.heap.size := (HT.out.in_ 9 rfl rfl).2
                have z_from : w.heap.size < wg1.heap.size := (HT.out.in_ 10 rfl rfl).2
                refine ⟨?_, ?_⟩
                · simp only [Again, pick, List.getElem?_toArray, List.getElem?_cons_succ, List.getElem?_cons_zero]
                  refine ⟨?_, trivial⟩
                  all_goals (still_step; exact wpStill_nil rfl)
                refine plan_loud ?_
                simp only [pick, List.getElem?_toArray, List.getElem?_cons_succ, List.getElem?_cons_zero]
                go_wp2_with fail
                clear r_place q_place r_rV q_rV r_rB q_rB r_rA q_rA r_to q_to r_v q_v r_from q_from z_place z_rV z_rB z_rA z_to z_v z_from
                obtain ⟨T', K'⟩ := HT.out.put2 6 (.int .i64 m2) (.slice Av (tt.length + l.length) cv) rfl rfl
                simp only [List.set_cons_succ, List.set_cons_zero] at T' K'
                replace HT := Lib.hid T'
                replace HF := Lib.hid (HF.out.move K')
                replace HTt := Lib.hid (HTt.out.move K')
                replace Hl := Lib.hid (Hl.out.move (by decide) K')
                clear T' K'
                replace hz : W8.heap.size + 2 ≤ (((wg1.setCell ⟨w.heap.size + 1 + 1 + 1 + 1, 0, none⟩ (.int .i64 m2)).setCell ⟨w.heap.size + 1 + 1 + 1 + 1, 1, none⟩ (.slice Av (tt.length + l.length) cv))).heap.size := by simpa using hz
                replace hw : w.heap.size + 7 ≤ (((wg1.setCell ⟨w.heap.size + 1 + 1 + 1 + 1, 0, none⟩ (.int .i64 m2)).setCell ⟨w.heap.size + 1 + 1 + 1 + 1, 1, none⟩ (.slice Av (tt.length + l.length) cv))).heap.size := by simpa using hw
                generalize (wg1.setCell ⟨w.heap.size + 1 + 1 + 1 + 1, 0, none⟩ (.int .i64 m2)).setCell ⟨w.heap.size + 1 + 1 + 1 + 1, 1, none⟩ (.slice Av (tt.length + l.length) cv) = wg2 at *
                obtain ⟨r_place, q_place, -, -, r_rV, q_rV, r_rB, q_rB, r_rA, q_rA, r_to, q_to, r_v, q_v, r_from, q_from, -⟩ := HT.out.rules
                have z_place : W8.heap.size + 1 < wg2.heap.size := (HT.out.in_ 0 rfl rfl).2
                have z_rV : w.heap.size + 1 + 1 + 1 + 1 + 1 < wg2.heap.size := (HT.out.in_ 5 rfl rfl).2
                have z_rB : w.heap.size + 1 + 1 + 1 + 1 < wg2.heap.size := (HT.out.in_ 6 rfl rfl).2
                have z_rA : w.heap.size + 1 + 1 + 1 < wg2.heap.size := (HT.out.in_ 7 rfl rfl).2
                have z_to : w.heap.size + 1 + 1 < wg2.heap.size := (HT.out.in_ 8 rfl rfl).2
                have z_v : w.heap.size + 1 < wg2.heap.size := (HT.out.in_ 9 rfl rfl).2
                have z_from : w.heap.size < wg2.heap.size := (HT.out.in_ 10 rfl rfl).2
                refine ⟨trivial, ?_⟩
                refine plan_loud ?_
                simp only [pick, List.getElem?_toArray, List.getElem?_cons_succ, List.getElem?_cons_zero]
                go_wp2_with fail
                clear r_place q_place r_rV q_rV r_rB q_rB r_rA q_rA r_to q_to r_v q_v r_from q_from z_place z_rV z_rB z_rA z_to z_v z_from
                obtain ⟨T', K'⟩ := HT.out.put2 5 (.int .i64 (newV (plM tt.length l) v).k) (.int .i64 (newV (plM tt.length l) v).n) rfl rfl
                simp only [List.set_cons_succ, List.set_cons_zero] at T' K'
                replace HT := Lib.hid T'
                replace HF := Lib.hid (HF.out.move K')
                replace HTt := Lib.hid (HTt.out.move K')
                replace Hl := Lib.hid (Hl.out.move (by decide) K')
                clear T' K'
                replace hz : W8.heap.size + 2 ≤ (((wg2.setCell ⟨w.heap.size + 1 + 1 + 1 + 1 + 1, 0, none⟩ (.int .i64 (newV (plM tt.length l) v).k)).setCell ⟨w.heap.size + 1 + 1 + 1 + 1 + 1, 1, none⟩ (.int .i64 (newV (plM tt.length l) v).n))).heap.size := by simpa using hz
                replace hw : w.heap.size + 7 ≤ (((wg2.setCell ⟨w.heap.size + 1 + 1 + 1 + 1 + 1, 0, none⟩ (.int .i64 (newV (plM tt.length l) v).k)).setCell ⟨w.heap.size + 1 + 1 + 1 + 1 + 1, 1, none⟩ (.int .i64 (newV (plM tt.length l) v).n))).heap.size := by simpa using hw
                generalize (wg2.setCell ⟨w.heap.size + 1 + 1 + 1 + 1 + 1, 0, none⟩ (.int .i64 (newV (plM tt.length l) v).k)).setCell ⟨w.heap.size + 1 + 1 + 1 + 1 + 1, 1, none⟩ (.int .i64 (newV (plM tt.length l) v).n) = wg3 at *
                obtain ⟨r_place, q_place, -, -, r_rV, q_rV, r_rB, q_rB, r_rA, q_rA, r_to, q_to, r_v, q_v, r_from, q_from, -⟩ := HT.out.rules
                have z_place : W8.heap.size + 1 < wg3.heap.size := (HT.out.in_ 0 rfl rfl).2
                have z_rV : w.heap.size + 1 + 1 + 1 + 1 + 1 < wg3.heap.size := (HT.out.in_ 5 rfl rfl).2
                have z_rB : w.heap.size + 1 + 1 + 1 + 1 < wg3.heap.size := (HT.out.in_ 6 rfl rfl).2
                have z_rA : w.heap.size + 1 + 1 + 1 < wg3.heap.size := (HT.out.in_ 7 rfl rfl).2
                have z_to : w.heap.size + 1 + 1 < wg3.heap.size := (HT.out.in_ 8 rfl rfl).2
                have z_v : w.heap.size + 1 < wg3.heap.size := (HT.out.in_ 9 rfl rfl).2
                have z_from : w.heap.size < wg3.heap.size := (HT.out.in_ 10 rfl rfl).2
                refine ⟨trivial, ?_⟩
                refine plan_still ?_
                simp only [pick, List.getElem?_toArray, List.getElem?_cons_succ, List.getElem?_cons_zero]
                repeat still_step
                refine wpStill_nil ?_
                refine plan_end (NoPanic.normal ?_)
                go_wp2_with fail
                have hLn : (partC fr tt l l.length).length = tt.length + l.length := partC_len (Nat.le_refl _)
                have hMn : (movedL fr ([])).length = fr.length := movedL_len _ _
                have hA := HT.out.rdRow (E := obE) (n := w.heap.size) 3 rfl rfl hMn.symm HF.out (by rw [hMn]; exact hfb.out) (Nat.le_refl _) (by decide)
                have hB := HT.out.rdRow (E := obE) (n := w.heap.size) 2 rfl rfl hLn.symm HTt.out (by rw [hLn]; show (tt.length + l.length) * 32 ≤ _; omega) (Nat.le_refl _) (by decide)
                refine bodyPost_ret (v := .tuple #[.agg #[.int .i64 m, .slice A5 fr.length c5], .agg #[.int .i64 m2, .slice Av (tt.length + l.length) cv], .agg #[.int .i64 (newV (plM tt.length l) v).k, .int .i64 (newV (plM tt.length l) v).n], .int .i64 0]) (by simp [results, Try.results8, go_sem, r_rA, r_rB, r_rV]) rfl ?_
                rw [HP.out]
                exact ⟨_, _, rfl, RdH.of hA hMn.symm, RdH.of hB hLn.symm, HT.out.below⟩
              · have hHF : Held obE wq (Fr w.heap.size [.blk (W8.heap.size + 1) #[.map (some W8.heap.size)] 61, mapR Try.prog 3 3 (.int .i64 0) W8.heap.size l.length (fun x => .int .i64 (plM tt.length l x)), .row w.heap.size 41 2 (.slice Av (tt.length + l.length) cv) (tt.length + l.length) (cat css), .row w.heap.size 41 2 (.slice A5 fr.length c5) fr.length (cat (rowsOf vs5 fr)), .blk (w.heap.size + 1 + 1 + 1 + 1 + 1 + 1) #[.int .i64 0, .slice none 0 0] 25, .blk (w.heap.size + 1 + 1 + 1 + 1 + 1) #[.int .i64 0, .int .i64 0] 30, .blk (w.heap.size + 1 + 1 + 1 + 1) #[.int .i64 0, .slice none 0 0] 25, .blk (w.heap.size + 1 + 1 + 1) #[.int .i64 0, .slice none 0 0] 25, .blk (w.heap.size + 1 + 1) #[.int .i64 m2, .slice Av (tt.length + l.length) cv] 25, .blk (w.heap.size + 1) #[.int .i64 v.k, .int .i64 v.n] 30, .blk w.heap.size #[.int .i64 m, .slice A5 fr.length c5] 25]) (rowsOf vs5 fr) (movedL fr (l.take 0)) := by rw [List.take_zero, movedL_nil]; exact HF.out
                replace HF := Lib.hid hHF
                clear hHF
                go_wp2_with fail
                go_loopw [130] (fun i wm => ∃ (k : Nat) (dss : List (List Value)), k ≤ l.length ∧ i = .int .i64 k ∧ St w.heap.size w wm [.blk (W8.heap.size + 1) #[.map (some W8.heap.size)] 61, mapR Try.prog 3 3 (.int .i64 0) W8.heap.size l.length (fun x => .int .i64 (plM tt.length l x)), .row w.heap.size 41 2 (.slice Av (tt.length + l.length) cv) (tt.length + l.length) (cat css), .row w.heap.size 41 2 (.slice A5 fr.length c5) fr.length (cat dss), .blk (w.heap.size + 1 + 1 + 1 + 1 + 1 + 1) #[.int .i64 0, .slice none 0 0] 25, .blk (w.heap.size + 1 + 1 + 1 + 1 + 1) #[.int .i64 0, .int .i64 0] 30, .blk (w.heap.size + 1 + 1 + 1 + 1) #[.int .i64 0, .slice none 0 0] 25, .blk (w.heap.size + 1 + 1 + 1) #[.int .i64 0, .slice none 0 0] 25, .blk (w.heap.size + 1 + 1) #[.int .i64 m2, .slice Av (tt.length + l.length) cv] 25, .blk (w.heap.size + 1) #[.int .i64 v.k, .int .i64 v.n] 30, .blk w.heap.size #[.int .i64 m, .slice A5 fr.length c5] 25] ∧ Held obE wm (Fr w.heap.size [.blk (W8.heap.size + 1) #[.map (some W8.heap.size)] 61, mapR Try.prog 3 3 (.int .i64 0) W8.heap.size l.length (fun x => .int .i64 (plM tt.length l x)), .row w.heap.size 41 2 (.slice Av (tt.length + l.length) cv) (tt.length + l.length) (cat css), .row w.heap.size 41 2 (.slice A5 fr.length c5) fr.length (cat dss), .blk (w.heap.size + 1 + 1 + 1 + 1 + 1 + 1) #[.int .i64 0, .slice none 0 0] 25, .blk (w.heap.size + 1 + 1 + 1 + 1 + 1) #[.int .i64 0, .int .i64 0] 30, .blk (w.heap.size + 1 + 1 + 1 + 1) #[.int .i64 0, .slice none 0 0] 25, .blk (w.heap.size + 1 + 1 + 1) #[.int .i64 0, .slice none 0 0] 25, .blk (w.heap.size + 1 + 1) #[.int .i64 m2, .slice Av (tt.length + l.length) cv] 25, .blk (w.heap.size + 1) #[.int .i64 v.k, .int .i64 v.n] 30, .blk w.heap.size #[.int .i64 m, .slice A5 fr.length c5] 25]) css (partC fr tt l l.length) ∧ Held obE wm (Fr w.heap.size [.blk (W8.heap.size + 1) #[.map (some W8.heap.size)] 61, mapR Try.prog 3 3 (.int .i64 0) W8.heap.size l.length (fun x => .int .i64 (plM tt.length l x)), .row w.heap.size 41 2 (.slice Av (tt.length + l.length) cv) (tt.length + l.length) (cat css), .row w.heap.size 41 2 (.slice A5 fr.length c5) fr.length (cat dss), .blk (w.heap.size + 1 + 1 + 1 + 1 + 1 + 1) #[.int .i64 0, .slice none 0 0] 25, .blk (w.heap.size + 1 + 1 + 1 + 1 + 1) #[.int .i64 0, .int .i64 0] 30, .blk (w.heap.size + 1 + 1 + 1 + 1) #[.int .i64 0, .slice none 0 0] 25, .blk (w.heap.size + 1 + 1 + 1) #[.int .i64 0, .slice none 0 0] 25, .blk (w.heap.size + 1 + 1) #[.int .i64 m2, .slice Av (tt.length + l.length) cv] 25, .blk (w.heap.size + 1) #[.int .i64 v.k, .int .i64 v.n] 30, .blk w.heap.size #[.int .i64 m, .slice A5 fr.length c5] 25]) dss (movedL fr (l.take k)) ∧ RdSl iE wm (Fr 0 [.blk (W8.heap.size + 1) #[.map (some W8.heap.size)] 61, mapR Try.prog 3 3 (.int .i64 0) W8.heap.size l.length (fun x => .int .i64 (plM tt.length l x)), .row w.heap.size 41 2 (.slice Av (tt.length + l.length) cv) (tt.length + l.length) (cat css), .row w.heap.size 41 2 (.slice A5 fr.length c5) fr.length (cat dss), .blk (w.heap.size + 1 + 1 + 1 + 1 + 1 + 1) #[.int .i64 0, .slice none 0 0] 25, .blk (w.heap.size + 1 + 1 + 1 + 1 + 1) #[.int .i64 0, .int .i64 0] 30, .blk (w.heap.size + 1 + 1 + 1 + 1) #[.int .i64 0, .slice none 0 0] 25, .blk (w.heap.size + 1 + 1 + 1) #[.int .i64 0, .slice none 0 0] 25, .blk (w.heap.size + 1 + 1) #[.int .i64 m2, .slice Av (tt.length + l.length) cv] 25, .blk (w.heap.size + 1) #[.int .i64 v.k, .int .i64 v.n] 30, .blk w.heap.size #[.int .i64 m, .slice A5 fr.length c5] 25]) (.slice R3 l.length c3) l ∧ W8.heap.size + 2 ≤ wm.heap.size ∧ w.heap.size + 7 ≤ wm.heap.size) (fun i _ => l.length - (intOf i).toNat)
                case atStart =>
                  refine ⟨0, rowsOf vs5 fr, Nat.zero_le _, rfl, ?_, ?_, ?_, ?_, hz, hw⟩
                  · with_reducible exact HT.out
                  · with_reducible exact HTt.out
                  · with_reducible exact HF.out
                  · with_reducible exact Hl.out
                case round =>
                  generalize wr = wm at *
                  clear HT HF HTt Hl hz hw
                  obtain ⟨k, dss, hk, rfl, ht, htt, hf, hl, hz, hw⟩ := hrel
                  have HT := Lib.hid ht
                  have HTt := Lib.hid htt
                  have HF := Lib.hid hf
                  have Hl := Lib.hid hl
                  clear ht htt hf hl
                  by_cases hlt : k < l.length
                  · obtain ⟨x, hx⟩ : ∃ x, l[k]? = some x := ⟨l[k], List.getElem?_eq_getElem hlt⟩
                    have hxw := Htold.out.within x (List.mem_of_getElem? hx)
                    obtain ⟨j, rfl⟩ : ∃ j : Nat, x = (j : Int) := ⟨x.toNat, by omega⟩
                    obtain ⟨b, o, rfl, _, _, y0⟩ := Hl.out.at_i hx
                    have hjl : j < fr.length := by omega
                    obtain ⟨g5, rfl, _⟩ := own_pos (HT.out.own 3 rfl) (by omega)
                    have hck : j < dss.length := by rw [HF.out.len, movedL_len]; omega
                    obtain ⟨ua, ub, hcs⟩ := HF.out.two rfl hck
                    have yT0 := HT.out.rowCell 3 rfl HF.out.size (j := 0) hcs rfl
                    have yT1 := HT.out.rowCell 3 rfl HF.out.size (j := 1) hcs rfl
                    rw [Nat.add_zero] at yT0
                    have qT := fun i => HT.out.rowFree 3 rfl i
                    have HX := Lib.hid hx
                    have Hcs := Lib.hid hcs
                    clear hx hcs
                    have i1 : (0 : Int) ≤ (k : Int) := by omega
                    have i2 : (k : Int) < (l.length : Int) := by omega
                    have i3 : (0 : Int) ≤ (j : Int) := by omega
                    have i4 : (j : Int) < (fr.length : Int) := by omega
                    obtain ⟨-, -, -, -, -, -, -, -, -, -, -, -, -, -, r_from, q_from, -⟩ := HT.out.rules
                    have z_from : w.heap.size < wm.heap.size := (HT.out.in_ 10 rfl rfl).2
                    go_wp2_with fail
                    clear r_from q_from z_from
                    clear qT yT0 yT1 y0
                    obtain ⟨T', K'⟩ := HT.out.rowPut2 3 j (.slice none 0 0) (.bool true) rfl HF.out.size hck
                    simp only [List.set_cons_succ, List.set_cons_zero] at T' K'
                    replace HT := Lib.hid T'
                    replace HF := Lib.hid (HF.out.move K')
                    replace HTt := Lib.hid (HTt.out.move K')
                    replace Hl := Lib.hid (Hl.out.move (by decide) K')
                    clear T' K'
                    replace hz : W8.heap.size + 2 ≤ (((wm.setCell ⟨g5, j * 2, none⟩ (.slice none 0 0)).setCell ⟨g5, j * 2 + 1, none⟩ (.bool true))).heap.size := by simpa using hz
                    replace hw : w.heap.size + 7 ≤ (((wm.setCell ⟨g5, j * 2, none⟩ (.slice none 0 0)).setCell ⟨g5, j * 2 + 1, none⟩ (.bool true))).heap.size := by simpa using hw
                    generalize (wm.setCell ⟨g5, j * 2, none⟩ (.slice none 0 0)).setCell ⟨g5, j * 2 + 1, none⟩ (.bool true) = we at *
                    have hset : Held obE we (Fr w.heap.size [.blk (W8.heap.size + 1) #[.map (some W8.heap.size)] 61, mapR Try.prog 3 3 (.int .i64 0) W8.heap.size l.length (fun x => .int .i64 (plM tt.length l x)), .row w.heap.size 41 2 (.slice Av (tt.length + l.length) cv) (tt.length + l.length) (cat css), .row w.heap.size 41 2 (.slice (some ⟨g5, 0, none⟩) fr.length c5) fr.length (cat (dss.set j [.slice none 0 0, .bool true])), .blk (w.heap.size + 1 + 1 + 1 + 1 + 1 + 1) #[.int .i64 0, .slice none 0 0] 25, .blk (w.heap.size + 1 + 1 + 1 + 1 + 1) #[.int .i64 0, .int .i64 0] 30, .blk (w.heap.size + 1 + 1 + 1 + 1) #[.int .i64 0, .slice none 0 0] 25, .blk (w.heap.size + 1 + 1 + 1) #[.int .i64 0, .slice none 0 0] 25, .blk (w.heap.size + 1 + 1) #[.int .i64 m2, .slice Av (tt.length + l.length) cv] 25, .blk (w.heap.size + 1) #[.int .i64 v.k, .int .i64 v.n] 30, .blk w.heap.size #[.int .i64 m, .slice (some ⟨g5, 0, none⟩) fr.length c5] 25]) (dss.set j [.slice none 0 0, .bool true]) (movedL fr (l.take (k + 1))) := by
                      rw [← movedL_take HX.out i3]
                      exact HF.out.set _ (x := ⟨[], true⟩) rfl ⟨_, rfl, RdSl.nil⟩
                    replace HF := Lib.hid hset
                    clear hset
                    go_wp2_with fail
                    go_roundw
                    case rel =>
                      refine ⟨k + 1, dss.set j [.slice none 0 0, .bool true], by omega, by go_num, ?_, ?_, ?_, ?_, hz, hw⟩
                      · with_reducible exact HT.out
                      · with_reducible exact HTt.out
                      · with_reducible exact HF.out
                      · with_reducible exact Hl.out
                    case measure => simp [intOf]; omega
                  · have hkk : k = l.length := by omega
                    subst hkk
                    simp only [List.take_length] at HF
                    clear hk hlt
                    obtain ⟨r_place, q_place, -, -, r_rV, q_rV, r_rB, q_rB, r_rA, q_rA, r_to, q_to, r_v, q_v, r_from, q_from, -⟩ := HT.out.rules
                    have z_place : W8.heap.size + 1 < wm.heap.size := (HT.out.in_ 0 rfl rfl).2
                    have z_rV : w.heap.size + 1 + 1 + 1 + 1 + 1 < wm.heap.size := (HT.out.in_ 5 rfl rfl).2
                    have z_rB : w.heap.size + 1 + 1 + 1 + 1 < wm.heap.size := (HT.out.in_ 6 rfl rfl).2
                    have z_rA : w.heap.size + 1 + 1 + 1 < wm.heap.size := (HT.out.in_ 7 rfl rfl).2
                    have z_to : w.heap.size + 1 + 1 < wm.heap.size := (HT.out.in_ 8 rfl rfl).2
                    have z_v : w.heap.size + 1 < wm.heap.size := (HT.out.in_ 9 rfl rfl).2
                    have z_from : w.heap.size < wm.heap.size := (HT.out.in_ 10 rfl rfl).2
                    go_wp2_with fail
                    refine wp_region_plan [.still [0, 1, 2, 3], .loud 4 [0, 1], .loud 5 [1], .loud 6 [], .loud 7 [], .still [8]] (by kernel_rfl) (by kernel_rfl) ?_
                    refine plan_still ?_
                    simp only [pick, List.getElem?_toArray, List.getElem?_cons_succ, List.getElem?_cons_zero]
                    repeat still_step
                    refine wpStill_nil ?_
                    refine plan_loud ?_
                    simp only [pick, List.getElem?_toArray, List.getElem?_cons_succ, List.getElem?_cons_zero]
                    go_wp2_with fail
                    obtain ⟨T', K'⟩ := HT.out.drew'
                    replace HT := Lib.hid T'
                    replace HF := Lib.hid (HF.out.move K')
                    replace HTt := Lib.hid (HTt.out.move K')
                    replace Hl := Lib.hid (Hl.out.move (by decide) K')
                    clear T' K'
                    replace hz : W8.heap.size + 2 ≤ wm.drew.heap.size := hz
                    replace hw : w.heap.size + 7 ≤ wm.drew.heap.size := hw
                    have hmp := Lib.hid (HT.out.map 1 rfl)
                    refine (there_any (plM tt.length l) (W8.heap.size + 1) W8.heap.size l.length v _ (cell_of_row _ _ 0 _ _ _ (HT.out.heap 0 rfl)) hmp.out (fun h => by have := Hok.out.roots v (by simp) h; omega)).mono ?_
                    rintro e wf ⟨rfl, hb⟩
                    clear r_place q_place r_rV q_rV r_rB q_rB r_rA q_rA r_to q_to r_v q_v r_from q_from z_place z_rV z_rB z_rA z_to z_v z_from
                    obtain ⟨T', K'⟩ := HT.out.call hb
                    replace HT := Lib.hid T'
                    replace HF := Lib.hid (HF.out.move K')
                    replace HTt := Lib.hid (HTt.out.move K')
                    replace Hl := Lib.hid (Hl.out.move (by decide) K')
                    clear T' K'
                    replace hz : W8.heap.size + 2 ≤ wf.heap.size := Nat.le_trans hz hb.size
                    replace hw : w.heap.size + 7 ≤ wf.heap.size := Nat.le_trans hw hb.size
                    clear hb
                    obtain ⟨r_place, q_place, -, -, r_rV, q_rV, r_rB, q_rB, r_rA, q_rA, r_to, q_to, r_v, q_v, r_from, q_from, -⟩ := HT.out.rules
                    have z_place : W8.heap.size + 1 < wf.heap.size := (HT.out.in_ 0 rfl rfl).2
                    have z_rV : w.heap.size + 1 + 1 + 1 + 1 + 1 < wf.heap.size := (HT.out.in_ 5 rfl rfl).2
                    have z_rB : w.heap.size + 1 + 1 + 1 + 1 < wf.heap.size := (HT.out.in_ 6 rfl rfl).2
                    have z_rA : w.heap.size + 1 + 1 + 1 < wf.heap.size := (HT.out.in_ 7 rfl rfl).2
                    have z_to : w.heap.size + 1 + 1 < wf.heap.size := (HT.out.in_ 8 rfl rfl).2
                    have z_v : w.heap.size + 1 < wf.heap.size := (HT.out.in_ 9 rfl rfl).2
                    have z_from : w.heap.size < wf.heap.size := (HT.out.in_ 10 rfl rfl).2
                    clear hmp
                    go_wp2_with fail
                    refine ⟨?_, ?_⟩
                    · simp only [Again, pick, List.getElem?_toArray, List.getElem?_cons_succ, List.getElem?_cons_zero]
                      refine ⟨?_, ?_, trivial⟩
                      all_goals (still_step; exact wpStill_nil rfl)
                    refine plan_loud ?_
                    simp only [pick, List.getElem?_toArray, List.getElem?_cons_succ, List.getElem?_cons_zero]
                    go_wp2_with fail
                    clear r_place q_place r_rV q_rV r_rB q_rB r_rA q_rA r_to q_to r_v q_v r_from q_from z_place z_rV z_rB z_rA z_to z_v z_from
                    obtain ⟨T', K'⟩ := HT.out.put2 7 (.int .i64 m) (.slice A5 fr.length c5) rfl rfl
                    simp only [List.set_cons_succ, List.set_cons_zero] at T' K'
                    replace HT := Lib.hid T'
                    replace HF := Lib.hid (HF.out.move K')
                    replace HTt := Lib.hid (HTt.out.move K')
                    replace Hl := Lib.hid (Hl.out.move (by decide) K')
                    clear T' K'
                    replace hz : W8.heap.size + 2 ≤ (((wf.setCell ⟨w.heap.size + 1 + 1 + 1, 0, none⟩ (.int .i64 m)).setCell ⟨w.heap.size + 1 + 1 + 1, 1, none⟩ (.slice A5 fr.length c5))).heap.size := by simpa using hz
                    replace hw : w.heap.size + 7 ≤ (((wf.setCell ⟨w.heap.size + 1 + 1 + 1, 0, none⟩ (.int .i64 m)).setCell ⟨w.heap.size + 1 + 1 + 1, 1, none⟩ (.slice A5 fr.length c5))).heap.size := by simpa using hw
                    generalize (wf.setCell ⟨w.heap.size + 1 + 1 + 1, 0, none⟩ (.int .i64 m)).setCell ⟨w.heap.size + 1 + 1 + 1, 1, none⟩ (.slice A5 fr.length c5) = wg1 at *
                    obtain ⟨r_place, q_place, -, -, r_rV, q_rV, r_rB, q_rB, r_rA, q_rA, r_to, q_to, r_v, q_v, r_from, q_from, -⟩ := HT.out.rules
                    have z_place : W8.heap.size + 1 < wg1.heap.size := (HT.out.in_ 0 rfl rfl).2
                    have z_rV : w.heap.size + 1 + 1 + 1 + 1 + 1 < wg1.heap.size := (HT.out.in_ 5 rfl rfl).2
                    have z_rB : w.heap.size + 1 + 1 + 1 + 1 < wg1.heap.size := (HT.out.in_ 6 rfl rfl).2
                    have z_rA : w.heap.size + 1 + 1 + 1 < wg1.heap.size := (HT.out.in_ 7 rfl rfl).2
                    have z_to : w.heap.size + 1 + 1 < wg1.heap.size := (HT.out.in_ 8 rfl rfl).2
                    have z_v : w.heap.size + 1 < wg1.heap.size := (HT.out.in_ 9 rfl rfl).2
                    have z_from : w.heap.size < wg1.heap.size := (HT.out.in_ 10 rfl rfl).2
                    refine ⟨?_, ?_⟩
                    · simp only [Again, pick, List.getElem?_toArray, List.getElem?_cons_succ, List.getElem?_cons_zero]
                      refine ⟨?_, trivial⟩
                      all_goals (still_step; exact wpStill_nil rfl)
                    refine plan_loud ?_
                    simp only [pick, List.getElem?_toArray, List.getElem?_cons_succ, List.getElem?_cons_zero]
                    go_wp2_with fail
                    clear r_place q_place r_rV q_rV r_rB q_rB r_rA q_rA r_to q_to r_v q_v r_from q_from z_place z_rV z_rB z_rA z_to z_v z_from
                    obtain ⟨T', K'⟩ := HT.out.put2 6 (.int .i64 m2) (.slice Av (tt.length + l.length) cv) rfl rfl
                    simp only [List.set_cons_succ, List.set_cons_zero] at T' K'
                    replace HT := Lib.hid T'
                    replace HF := Lib.hid (HF.out.move K')
                    replace HTt := Lib.hid (HTt.out.move K')
                    replace Hl := Lib.hid (Hl.out.move (by decide) K')
                    clear T' K'
                    replace hz : W8.heap.size + 2 ≤ (((wg1.setCell ⟨w.heap.size + 1 + 1 + 1 + 1, 0, none⟩ (.int .i64 m2)).setCell ⟨w.heap.size + 1 + 1 + 1 + 1, 1, none⟩ (.slice Av (tt.length + l.length) cv))).heap.size := by simpa using hz
                    replace hw : w.heap.size + 7 ≤ (((wg1.setCell ⟨w.heap.size + 1 + 1 + 1 + 1, 0, none⟩ (.int .i64 m2)).setCell ⟨w.heap.size + 1 + 1 + 1 + 1, 1, none⟩ (.slice Av (tt.length + l.length) cv))).heap.size := by simpa using hw
                    generalize (wg1.setCell ⟨w.heap.size + 1 + 1 + 1 + 1, 0, none⟩ (.int .i64 m2)).setCell ⟨w.heap.size + 1 + 1 + 1 + 1, 1, none⟩ (.slice Av (tt.length + l.length) cv) = wg2 at *
                    obtain ⟨r_place, q_place, -, -, r_rV, q_rV, r_rB, q_rB, r_rA, q_rA, r_to, q_to, r_v, q_v, r_from, q_from, -⟩ := HT.out.rules
                    have z_place : W8.heap.size + 1 < wg2.heap.size := (HT.out.in_ 0 rfl rfl).2
                    have z_rV : w.heap.size + 1 + 1 + 1 + 1 + 1 < wg2.heap.size := (HT.out.in_ 5 rfl rfl).2
                    have z_rB : w.heap.size + 1 + 1 + 1 + 1 < wg2.heap.size := (HT.out.in_ 6 rfl rfl).2
                    have z_rA : w.heap.size + 1 + 1 + 1 < wg2.heap.size := (HT.out.in_ 7 rfl rfl).2
                    have z_to : w.heap.size + 1 + 1 < wg2.heap.size := (HT.out.in_ 8 rfl rfl).2
                    have z_v : w.heap.size + 1 < wg2.heap.size := (HT.out.in_ 9 rfl rfl).2
                    have z_from : w.heap.size < wg2.heap.size := (HT.out.in_ 10 rfl rfl).2
                    refine ⟨trivial, ?_⟩
                    refine plan_loud ?_
                    simp only [pick, List.getElem?_toArray, List.getElem?_cons_succ, List.getElem?_cons_zero]
                    go_wp2_with fail
                    clear r_place q_place r_rV q_rV r_rB q_rB r_rA q_rA r_to q_to r_v q_v r_from q_from z_place z_rV z_rB z_rA z_to z_v z_from
                    obtain ⟨T', K'⟩ := HT.out.put2 5 (.int .i64 (newV (plM tt.length l) v).k) (.int .i64 (newV (plM tt.length l) v).n) rfl rfl
                    simp only [List.set_cons_succ, List.set_cons_zero] at T' K'
                    replace HT := Lib.hid T'
                    replace HF := Lib.hid (HF.out.move K')
                    replace HTt := Lib.hid (HTt.out.move K')
                    replace Hl := Lib.hid (Hl.out.move (by decide) K')
                    clear T' K'
                    replace hz : W8.heap.size + 2 ≤ (((wg2.setCell ⟨w.heap.size + 1 + 1 + 1 + 1 + 1, 0, none⟩ (.int .i64 (newV (plM tt.length l) v).k)).setCell ⟨w.heap.size + 1 + 1 + 1 + 1 + 1, 1, none⟩ (.int .i64 (newV (plM tt.length l) v).n))).heap.size := by simpa using hz
                    replace hw : w.heap.size + 7 ≤ (((wg2.setCell ⟨w.heap.size + 1 + 1 + 1 + 1 + 1, 0, none⟩ (.int .i64 (newV (plM tt.length l) v).k)).setCell ⟨w.heap.size + 1 + 1 + 1 + 1 + 1, 1, none⟩ (.int .i64 (newV (plM tt.length l) v).n))).heap.size := by simpa using hw
                    generalize (wg2.setCell ⟨w.heap.size + 1 + 1 + 1 + 1 + 1, 0, none⟩ (.int .i64 (newV (plM tt.length l) v).k)).setCell ⟨w.heap.size + 1 + 1 + 1 + 1 + 1, 1, none⟩ (.int .i64 (newV (plM tt.length l) v).n) = wg3 at *
                    obtain ⟨r_place, q_place, -, -, r_rV, q_rV, r_rB, q_rB, r_rA, q_rA, r_to, q_to, r_v, q_v, r_from, q_from, -⟩ := HT.out.rules
                    have z_place : W8.heap.size + 1 < wg3.heap.size := (HT.out.in_ 0 rfl rfl).2
                    have z_rV : w.heap.size + 1 + 1 + 1 + 1 + 1 < wg3.heap.size := (HT.out.in_ 5 rfl rfl).2
                    have z_rB : w.heap.size + 1 + 1 + 1 + 1 < wg3.heap.size := (HT.out.in_ 6 rfl rfl).2
                    have z_rA : w.heap.size + 1 + 1 + 1 < wg3.heap.size := (HT.out.in_ 7 rfl rfl).2
                    have z_to : w.heap.size + 1 + 1 < wg3.heap.size := (HT.out.in_ 8 rfl rfl).2
                    have z_v : w.heap.size + 1 < wg3.heap.size := (HT.out.in_ 9 rfl rfl).2
                    have z_from : w.heap.size < wg3.heap.size := (HT.out.in_ 10 rfl rfl).2
                    refine ⟨trivial, ?_⟩
                    refine plan_still ?_
                    simp only [pick, List.getElem?_toArray, List.getElem?_cons_succ, List.getElem?_cons_zero]
                    repeat still_step
                    refine wpStill_nil ?_
                    refine plan_end (NoPanic.normal ?_)
                    go_wp2_with fail
                    have hLn : (partC fr tt l l.length).length = tt.length + l.length := partC_len (Nat.le_refl _)
                    have hMn : (movedL fr (l)).length = fr.length := movedL_len _ _
                    have hA := HT.out.rdRow (E := obE) (n := w.heap.size) 3 rfl rfl hMn.symm HF.out (by rw [hMn]; exact hfb.out) (Nat.le_refl _) (by decide)
                    have hB := HT.out.rdRow (E := obE) (n := w.heap.size) 2 rfl rfl hLn.symm HTt.out (by rw [hLn]; show (tt.length + l.length) * 32 ≤ _; omega) (Nat.le_refl _) (by decide)
                    refine bodyPost_ret (v := .tuple #[.agg #[.int .i64 m, .slice A5 fr.length c5], .agg #[.int .i64 m2, .slice Av (tt.length + l.length) cv], .agg #[.int .i64 (newV (plM tt.length l) v).k, .int .i64 (newV (plM tt.length l) v).n], .int .i64 0]) (by simp [results, Try.results8, go_sem, r_rA, r_rB, r_rV]) rfl ?_
                    rw [HP.out]
                    exact ⟨_, _, rfl, RdH.of hA hMn.symm, RdH.of hB hLn.symm, HT.out.below⟩
    · have hf : hpB ⟨m2, tt⟩ [] = false := by simpa using hp2
      have hE : transE ⟨m, fr⟩ v ⟨m2, tt⟩ (reachL fr [v]) = 8 := by
        unfold transE
        rw [if_neg (by rw [hp1]; decide), if_pos hf]
      have HRF := Lib.hid (refused 8 hE (by decide))
      have HC2 := Lib.hid (checkN_none hf)
      clear refused hE hf hp1 hp2
      have HT := HT0
      have hw := hz0
      clear HT0 hz0
      go_enter Try.func8, Try.ntmps8
      go_upto_region 2 with fail
      generalize (((((((w.alloc (.cells #[.int .i64 m, .slice A fr.length c] 25)).alloc (.cells #[.int .i64 v.k, .int .i64 v.n] 30)).alloc (.cells #[.int .i64 m2, .slice B tt.length d] 25)).alloc (.cells #[.int .i64 0, .slice none 0 0] 25)).alloc (.cells #[.int .i64 0, .slice none 0 0] 25)).alloc (.cells #[.int .i64 0, .int .i64 0] 30)).alloc (.cells #[.int .i64 0, .slice none 0 0] 25)) = W0 at *
      obtain ⟨r_none, q_none, r_rV, q_rV, r_rB, q_rB, r_rA, q_rA, r_to, q_to, r_v, q_v, r_from, q_from, -⟩ := HT.out.rules
      have z_none : w.heap.size + 1 + 1 + 1 + 1 + 1 + 1 < W0.heap.size := (HT.out.in_ 0 rfl rfl).2
      have z_rV : w.heap.size + 1 + 1 + 1 + 1 + 1 < W0.heap.size := (HT.out.in_ 1 rfl rfl).2
      have z_rB : w.heap.size + 1 + 1 + 1 + 1 < W0.heap.size := (HT.out.in_ 2 rfl rfl).2
      have z_rA : w.heap.size + 1 + 1 + 1 < W0.heap.size := (HT.out.in_ 3 rfl rfl).2
      have z_to : w.heap.size + 1 + 1 < W0.heap.size := (HT.out.in_ 4 rfl rfl).2
      have z_v : w.heap.size + 1 < W0.heap.size := (HT.out.in_ 5 rfl rfl).2
      have z_from : w.heap.size < W0.heap.size := (HT.out.in_ 6 rfl rfl).2
      go_wp2_with fail
      obtain ⟨T', K'⟩ := HT.out.alloc (.cells #[.int .i64 v.k, .int .i64 v.n] 30)
      replace HT := Lib.hid T'
      replace Hr := Lib.hid (Hr.out.move (by decide) K')
      replace Hq := Lib.hid (Hq.out.move (by decide) K')
      clear T' K'
      replace hw : w.heap.size + 1 + 1 + 1 + 1 + 1 + 1 + 1 ≤ ((W0.alloc (.cells #[.int .i64 v.k, .int .i64 v.n] 30))).heap.size := Nat.le_trans hw (by simp)
      refine (check_is m _ _ A _ c 1 fr [v] _ _ HC1 Hr.out (rd_one (blk_at rfl))).mono ?_
      rintro e W1 ⟨rfl, hb⟩
      clear r_none q_none r_rV q_rV r_rB q_rB r_rA q_rA r_to q_to r_v q_v r_from q_from z_none z_rV z_rB z_rA z_to z_v z_from
      obtain ⟨T', K'⟩ := HT.out.call hb
      replace HT := Lib.hid T'
      replace Hr := Lib.hid (Hr.out.move (by decide) K')
      replace Hq := Lib.hid (Hq.out.move (by decide) K')
      clear T' K'
      replace hw : w.heap.size + 1 + 1 + 1 + 1 + 1 + 1 + 1 ≤ W1.heap.size := Nat.le_trans hw hb.size
      clear hb
      obtain ⟨r_none, q_none, r_rV, q_rV, r_rB, q_rB, r_rA, q_rA, r_to, q_to, r_v, q_v, r_from, q_from, -⟩ := HT.out.rules
      have z_none : w.heap.size + 1 + 1 + 1 + 1 + 1 + 1 < W1.heap.size := (HT.out.in_ 0 rfl rfl).2
      have z_rV : w.heap.size + 1 + 1 + 1 + 1 + 1 < W1.heap.size := (HT.out.in_ 1 rfl rfl).2
      have z_rB : w.heap.size + 1 + 1 + 1 + 1 < W1.heap.size := (HT.out.in_ 2 rfl rfl).2
      have z_rA : w.heap.size + 1 + 1 + 1 < W1.heap.size := (HT.out.in_ 3 rfl rfl).2
      have z_to : w.heap.size + 1 + 1 < W1.heap.size := (HT.out.in_ 4 rfl rfl).2
      have z_v : w.heap.size + 1 < W1.heap.size := (HT.out.in_ 5 rfl rfl).2
      have z_from : w.heap.size < W1.heap.size := (HT.out.in_ 6 rfl rfl).2
      go_wp2_with fail
      refine (check_is m2 _ (fun _ => True) B none d 0 tt [] _ _ HC2 Hq.out RdSl.nil).mono ?_
      rintro e W2 ⟨rfl, hb⟩
      clear r_none q_none r_rV q_rV r_rB q_rB r_rA q_rA r_to q_to r_v q_v r_from q_from z_none z_rV z_rB z_rA z_to z_v z_from
      obtain ⟨T', K'⟩ := HT.out.call hb
      replace HT := Lib.hid T'
      replace Hr := Lib.hid (Hr.out.move (by decide) K')
      replace Hq := Lib.hid (Hq.out.move (by decide) K')
      clear T' K'
      replace hw : w.heap.size + 1 + 1 + 1 + 1 + 1 + 1 + 1 ≤ W2.heap.size := Nat.le_trans hw hb.size
      clear hb
      obtain ⟨r_none, q_none, r_rV, q_rV, r_rB, q_rB, r_rA, q_rA, r_to, q_to, r_v, q_v, r_from, q_from, -⟩ := HT.out.rules
      have z_none : w.heap.size + 1 + 1 + 1 + 1 + 1 + 1 < W2.heap.size := (HT.out.in_ 0 rfl rfl).2
      have z_rV : w.heap.size + 1 + 1 + 1 + 1 + 1 < W2.heap.size := (HT.out.in_ 1 rfl rfl).2
      have z_rB : w.heap.size + 1 + 1 + 1 + 1 < W2.heap.size := (HT.out.in_ 2 rfl rfl).2
      have z_rA : w.heap.size + 1 + 1 + 1 < W2.heap.size := (HT.out.in_ 3 rfl rfl).2
      have z_to : w.heap.size + 1 + 1 < W2.heap.size := (HT.out.in_ 4 rfl rfl).2
      have z_v : w.heap.size + 1 < W2.heap.size := (HT.out.in_ 5 rfl rfl).2
      have z_from : w.heap.size < W2.heap.size := (HT.out.in_ 6 rfl rfl).2
      go_wp2_with fail
      refine wp_region_plan [.still [0, 1, 2, 3], .loud 4 [1, 2, 3], .loud 5 [2, 3], .loud 6 [3], .still [7]] (by kernel_rfl) (by kernel_rfl) ?_
      refine plan_still ?_
      simp only [pick, List.getElem?_toArray, List.getElem?_cons_succ, List.getElem?_cons_zero]
      repeat still_step
      refine wpStill_nil ?_
      refine plan_loud ?_
      simp only [pick, List.getElem?_toArray, List.getElem?_cons_succ, List.getElem?_cons_zero]
      go_wp2_with fail
      clear r_none q_none r_rV q_rV r_rB q_rB r_rA q_rA r_to q_to r_v q_v r_from q_from z_none z_rV z_rB z_rA z_to z_v z_from
      obtain ⟨T', K'⟩ := HT.out.put2 3 (.int .i64 0) (.slice none 0 0) rfl rfl
      simp only [List.set_cons_succ, List.set_cons_zero] at T' K'
      replace HT := Lib.hid T'
      replace Hr := Lib.hid (Hr.out.move (by decide) K')
      replace Hq := Lib.hid (Hq.out.move (by decide) K')
      clear T' K'
      replace hw : w.heap.size + 1 + 1 + 1 + 1 + 1 + 1 + 1 ≤ (((W2.setCell ⟨w.heap.size + 1 + 1 + 1, 0, none⟩ (.int .i64 0)).setCell ⟨w.heap.size + 1 + 1 + 1, 1, none⟩ (.slice none 0 0))).heap.size := by simpa using hw
      generalize (W2.setCell ⟨w.heap.size + 1 + 1 + 1, 0, none⟩ (.int .i64 0)).setCell ⟨w.heap.size + 1 + 1 + 1, 1, none⟩ (.slice none 0 0) = W2s1 at *
      obtain ⟨r_none, q_none, r_rV, q_rV, r_rB, q_rB, r_rA, q_rA, r_to, q_to, r_v, q_v, r_from, q_from, -⟩ := HT.out.rules
      have z_none : w.heap.size + 1 + 1 + 1 + 1 + 1 + 1 < W2s1.heap.size := (HT.out.in_ 0 rfl rfl).2
      have z_rV : w.heap.size + 1 + 1 + 1 + 1 + 1 < W2s1.heap.size := (HT.out.in_ 1 rfl rfl).2
      have z_rB : w.heap.size + 1 + 1 + 1 + 1 < W2s1.heap.size := (HT.out.in_ 2 rfl rfl).2
      have z_rA : w.heap.size + 1 + 1 + 1 < W2s1.heap.size := (HT.out.in_ 3 rfl rfl).2
      have z_to : w.heap.size + 1 + 1 < W2s1.heap.size := (HT.out.in_ 4 rfl rfl).2
      have z_v : w.heap.size + 1 < W2s1.heap.size := (HT.out.in_ 5 rfl rfl).2
      have z_from : w.heap.size < W2s1.heap.size := (HT.out.in_ 6 rfl rfl).2
      refine ⟨?_, ?_⟩
      · simp only [Again, pick, List.getElem?_toArray, List.getElem?_cons_succ, List.getElem?_cons_zero]
        refine ⟨?_, ?_, ?_, trivial⟩
        all_goals (still_step; exact wpStill_nil rfl)
      refine plan_loud ?_
      simp only [pick, List.getElem?_toArray, List.getElem?_cons_succ, List.getElem?_cons_zero]
      go_wp2_with fail
      clear r_none q_none r_rV q_rV r_rB q_rB r_rA q_rA r_to q_to r_v q_v r_from q_from z_none z_rV z_rB z_rA z_to z_v z_from
      obtain ⟨T', K'⟩ := HT.out.put2 2 (.int .i64 0) (.slice none 0 0) rfl rfl
      simp only [List.set_cons_succ, List.set_cons_zero] at T' K'
      replace HT := Lib.hid T'
      replace Hr := Lib.hid (Hr.out.move (by decide) K')
      replace Hq := Lib.hid (Hq.out.move (by decide) K')
      clear T' K'
      replace hw : w.heap.size + 1 + 1 + 1 + 1 + 1 + 1 + 1 ≤ (((W2s1.setCell ⟨w.heap.size + 1 + 1 + 1 + 1, 0, none⟩ (.int .i64 0)).setCell ⟨w.heap.size + 1 + 1 + 1 + 1, 1, none⟩ (.slice none 0 0))).heap.size := by simpa using hw
      generalize (W2s1.setCell ⟨w.heap.size + 1 + 1 + 1 + 1, 0, none⟩ (.int .i64 0)).setCell ⟨w.heap.size + 1 + 1 + 1 + 1, 1, none⟩ (.slice none 0 0) = W2s2 at *
      obtain ⟨r_none, q_none, r_rV, q_rV, r_rB, q_rB, r_rA, q_rA, r_to, q_to, r_v, q_v, r_from, q_from, -⟩ := HT.out.rules
      have z_none : w.heap.size + 1 + 1 + 1 + 1 + 1 + 1 < W2s2.heap.size := (HT.out.in_ 0 rfl rfl).2
      have z_rV : w.heap.size + 1 + 1 + 1 + 1 + 1 < W2s2.heap.size := (HT.out.in_ 1 rfl rfl).2
      have z_rB : w.heap.size + 1 + 1 + 1 + 1 < W2s2.heap.size := (HT.out.in_ 2 rfl rfl).2
      have z_rA : w.heap.size + 1 + 1 + 1 < W2s2.heap.size := (HT.out.in_ 3 rfl rfl).2
      have z_to : w.heap.size + 1 + 1 < W2s2.heap.size := (HT.out.in_ 4 rfl rfl).2
      have z_v : w.heap.size + 1 < W2s2.heap.size := (HT.out.in_ 5 rfl rfl).2
      have z_from : w.heap.size < W2s2.heap.size := (HT.out.in_ 6 rfl rfl).2
      refine ⟨?_, ?_⟩
      · simp only [Again, pick, List.getElem?_toArray, List.getElem?_cons_succ, List.getElem?_cons_zero]
        refine ⟨?_, ?_, trivial⟩
        all_goals (still_step; exact wpStill_nil rfl)
      refine plan_loud ?_
      simp only [pick, List.getElem?_toArray, List.getElem?_cons_succ, List.getElem?_cons_zero]
      go_wp2_with fail
      clear r_none q_none r_rV q_rV r_rB q_rB r_rA q_rA r_to q_to r_v q_v r_from q_from z_none z_rV z_rB z_rA z_to z_v z_from
      obtain ⟨T', K'⟩ := HT.out.put2 1 (.int .i64 0) (.int .i64 0) rfl rfl
      simp only [List.set_cons_succ, List.set_cons_zero] at T' K'
      replace HT := Lib.hid T'
      replace Hr := Lib.hid (Hr.out.move (by decide) K')
      replace Hq := Lib.hid (Hq.out.move (by decide) K')
      clear T' K'
      replace hw : w.heap.size + 1 + 1 + 1 + 1 + 1 + 1 + 1 ≤ (((W2s2.setCell ⟨w.heap.size + 1 + 1 + 1 + 1 + 1, 0, none⟩ (.int .i64 0)).setCell ⟨w.heap.size + 1 + 1 + 1 + 1 + 1, 1, none⟩ (.int .i64 0))).heap.size := by simpa using hw
      generalize (W2s2.setCell ⟨w.heap.size + 1 + 1 + 1 + 1 + 1, 0, none⟩ (.int .i64 0)).setCell ⟨w.heap.size + 1 + 1 + 1 + 1 + 1, 1, none⟩ (.int .i64 0) = W2s3 at *
      obtain ⟨r_none, q_none, r_rV, q_rV, r_rB, q_rB, r_rA, q_rA, r_to, q_to, r_v, q_v, r_from, q_from, -⟩ := HT.out.rules
      have z_none : w.heap.size + 1 + 1 + 1 + 1 + 1 + 1 < W2s3.heap.size := (HT.out.in_ 0 rfl rfl).2
      have z_rV : w.heap.size + 1 + 1 + 1 + 1 + 1 < W2s3.heap.size := (HT.out.in_ 1 rfl rfl).2
      have z_rB : w.heap.size + 1 + 1 + 1 + 1 < W2s3.heap.size := (HT.out.in_ 2 rfl rfl).2
      have z_rA : w.heap.size + 1 + 1 + 1 < W2s3.heap.size := (HT.out.in_ 3 rfl rfl).2
      have z_to : w.heap.size + 1 + 1 < W2s3.heap.size := (HT.out.in_ 4 rfl rfl).2
      have z_v : w.heap.size + 1 < W2s3.heap.size := (HT.out.in_ 5 rfl rfl).2
      have z_from : w.heap.size < W2s3.heap.size := (HT.out.in_ 6 rfl rfl).2
      refine ⟨?_, ?_⟩
      · simp only [Again, pick, List.getElem?_toArray, List.getElem?_cons_succ, List.getElem?_cons_zero]
        refine ⟨?_, trivial⟩
        all_goals (still_step; exact wpStill_nil rfl)
      refine plan_still ?_
      simp only [pick, List.getElem?_toArray, List.getElem?_cons_succ, List.getElem?_cons_zero]
      repeat still_step
      refine wpStill_nil ?_
      refine plan_end (NoPanic.normal ?_)
      go_wp2_with fail
      refine bodyPost_ret (v := .tuple #[.agg #[.int .i64 0, .slice none 0 0], .agg #[.int .i64 0, .slice none 0 0], .agg #[.int .i64 0, .int .i64 0], .int .i64 8]) (by simp [results, Try.results8, go_sem, r_rA, r_rB, r_rV]) rfl (by rw [HRF.out]; exact ⟨_, _, rfl, .zero, .zero, HT.out.below.drew⟩)
  · have hf : hpB ⟨m, fr⟩ [v] = false := by simpa using hp1
    have HRF := Lib.hid (refused 8 (if_pos hf) (by decide))
    have HC := Lib.hid (checkN_none hf)
    clear refused hf hp1
    have HT := HT0
    have hw := hz0
    clear HT0 hz0
    go_enter Try.func8, Try.ntmps8
    go_upto_region 2 with fail
    generalize (((((((w.alloc (.cells #[.int .i64 m, .slice A fr.length c] 25)).alloc (.cells #[.int .i64 v.k, .int .i64 v.n] 30)).alloc (.cells #[.int .i64 m2, .slice B tt.length d] 25)).alloc (.cells #[.int .i64 0, .slice none 0 0] 25)).alloc (.cells #[.int .i64 0, .slice none 0 0] 25)).alloc (.cells #[.int .i64 0, .int .i64 0] 30)).alloc (.cells #[.int .i64 0, .slice none 0 0] 25)) = W0 at *
    obtain ⟨r_none, q_none, r_rV, q_rV, r_rB, q_rB, r_rA, q_rA, r_to, q_to, r_v, q_v, r_from, q_from, -⟩ := HT.out.rules
    have z_none : w.heap.size + 1 + 1 + 1 + 1 + 1 + 1 < W0.heap.size := (HT.out.in_ 0 rfl rfl).2
    have z_rV : w.heap.size + 1 + 1 + 1 + 1 + 1 < W0.heap.size := (HT.out.in_ 1 rfl rfl).2
    have z_rB : w.heap.size + 1 + 1 + 1 + 1 < W0.heap.size := (HT.out.in_ 2 rfl rfl).2
    have z_rA : w.heap.size + 1 + 1 + 1 < W0.heap.size := (HT.out.in_ 3 rfl rfl).2
    have z_to : w.heap.size + 1 + 1 < W0.heap.size := (HT.out.in_ 4 rfl rfl).2
    have z_v : w.heap.size + 1 < W0.heap.size := (HT.out.in_ 5 rfl rfl).2
    have z_from : w.heap.size < W0.heap.size := (HT.out.in_ 6 rfl rfl).2
    go_wp2_with fail
    obtain ⟨T', K'⟩ := HT.out.alloc (.cells #[.int .i64 v.k, .int .i64 v.n] 30)
    replace HT := Lib.hid T'
    replace Hr := Lib.hid (Hr.out.move (by decide) K')
    replace Hq := Lib.hid (Hq.out.move (by decide) K')
    clear T' K'
    replace hw : w.heap.size + 1 + 1 + 1 + 1 + 1 + 1 + 1 ≤ ((W0.alloc (.cells #[.int .i64 v.k, .int .i64 v.n] 30))).heap.size := Nat.le_trans hw (by simp)
    refine (check_is m _ _ A _ c 1 fr [v] _ _ HC Hr.out (rd_one (blk_at rfl))).mono ?_
    rintro e W1 ⟨rfl, hb⟩
    clear r_none q_none r_rV q_rV r_rB q_rB r_rA q_rA r_to q_to r_v q_v r_from q_from z_none z_rV z_rB z_rA z_to z_v z_from
    obtain ⟨T', K'⟩ := HT.out.call hb
    replace HT := Lib.hid T'
    replace Hr := Lib.hid (Hr.out.move (by decide) K')
    replace Hq := Lib.hid (Hq.out.move (by decide) K')
    clear T' K'
    replace hw : w.heap.size + 1 + 1 + 1 + 1 + 1 + 1 + 1 ≤ W1.heap.size := Nat.le_trans hw hb.size
    clear hb
    obtain ⟨r_none, q_none, r_rV, q_rV, r_rB, q_rB, r_rA, q_rA, r_to, q_to, r_v, q_v, r_from, q_from, -⟩ := HT.out.rules
    have z_none : w.heap.size + 1 + 1 + 1 + 1 + 1 + 1 < W1.heap.size := (HT.out.in_ 0 rfl rfl).2
    have z_rV : w.heap.size + 1 + 1 + 1 + 1 + 1 < W1.heap.size := (HT.out.in_ 1 rfl rfl).2
    have z_rB : w.heap.size + 1 + 1 + 1 + 1 < W1.heap.size := (HT.out.in_ 2 rfl rfl).2
    have z_rA : w.heap.size + 1 + 1 + 1 < W1.heap.size := (HT.out.in_ 3 rfl rfl).2
    have z_to : w.heap.size + 1 + 1 < W1.heap.size := (HT.out.in_ 4 rfl rfl).2
    have z_v : w.heap.size + 1 < W1.heap.size := (HT.out.in_ 5 rfl rfl).2
    have z_from : w.heap.size < W1.heap.size := (HT.out.in_ 6 rfl rfl).2
    go_wp2_with fail
    refine wp_region_plan [.still [0, 1, 2, 3], .loud 4 [1, 2, 3], .loud 5 [2, 3], .loud 6 [3], .still [7]] (by kernel_rfl) (by kernel_rfl) ?_
    refine plan_still ?_
    simp only [pick, List.getElem?_toArray, List.getElem?_cons_succ, List.getElem?_cons_zero]
    repeat still_step
    refine wpStill_nil ?_
    refine plan_loud ?_
    simp only [pick, List.getElem?_toArray, List.getElem?_cons_succ, List.getElem?_cons_zero]
    go_wp2_with fail
    clear r_none q_none r_rV q_rV r_rB q_rB r_rA q_rA r_to q_to r_v q_v r_from q_from z_none z_rV z_rB z_rA z_to z_v z_from
    obtain ⟨T', K'⟩ := HT.out.put2 3 (.int .i64 0) (.slice none 0 0) rfl rfl
    simp only [List.set_cons_succ, List.set_cons_zero] at T' K'
    replace HT := Lib.hid T'
    replace Hr := Lib.hid (Hr.out.move (by decide) K')
    replace Hq := Lib.hid (Hq.out.move (by decide) K')
    clear T' K'
    replace hw : w.heap.size + 1 + 1 + 1 + 1 + 1 + 1 + 1 ≤ (((W1.setCell ⟨w.heap.size + 1 + 1 + 1, 0, none⟩ (.int .i64 0)).setCell ⟨w.heap.size + 1 + 1 + 1, 1, none⟩ (.slice none 0 0))).heap.size := by simpa using hw
    generalize (W1.setCell ⟨w.heap.size + 1 + 1 + 1, 0, none⟩ (.int .i64 0)).setCell ⟨w.heap.size + 1 + 1 + 1, 1, none⟩ (.slice none 0 0) = W1s1 at *
    obtain ⟨r_none, q_none, r_rV, q_rV, r_rB, q_rB, r_rA, q_rA, r_to, q_to, r_v, q_v, r_from, q_from, -⟩ := HT.out.rules
    have z_none : w.heap.size + 1 + 1 + 1 + 1 + 1 + 1 < W1s1.heap.size := (HT.out.in_ 0 rfl rfl).2
    have z_rV : w.heap.size + 1 + 1 + 1 + 1 + 1 < W1s1.heap.size := (HT.out.in_ 1 rfl rfl).2
    have z_rB : w.heap.size + 1 + 1 + 1 + 1 < W1s1.heap.size := (HT.out.in_ 2 rfl rfl).2
    have z_rA : w.heap.size + 1 + 1 + 1 < W1s1.heap.size := (HT.out.in_ 3 rfl rfl).2
    have z_to : w.heap.size + 1 + 1 < W1s1.heap.size := (HT.out.in_ 4 rfl rfl).2
    have z_v : w.heap.size + 1 < W1s1.heap.size := (HT.out.in_ 5 rfl rfl).2
    have z_from : w.heap.size < W1s1.heap.size := (HT.out.in_ 6 rfl rfl).2
    refine ⟨?_, ?_⟩
    · simp only [Again, pick, List.getElem?_toArray, List.getElem?_cons_succ, List.getElem?_cons_zero]
      refine ⟨?_, ?_, ?_, trivial⟩
      all_goals (still_step; exact wpStill_nil rfl)
    refine plan_loud ?_
    simp only [pick, List.getElem?_toArray, List.getElem?_cons_succ, List.getElem?_cons_zero]
    go_wp2_with fail
    clear r_none q_none r_rV q_rV r_rB q_rB r_rA q_rA r_to q_to r_v q_v r_from q_from z_none z_rV z_rB z_rA z_to z_v z_from
    obtain ⟨T', K'⟩ := HT.out.put2 2 (.int .i64 0) (.slice none 0 0) rfl rfl
    simp only [List.set_cons_succ, List.set_cons_zero] at T' K'
    replace HT := Lib.hid T'
    replace Hr := Lib.hid (Hr.out.move (by decide) K')
    replace Hq := Lib.hid (Hq.out.move (by decide) K')
    clear T' K'
    replace hw : w.heap.size + 1 + 1 + 1 + 1 + 1 + 1 + 1 ≤ (((W1s1.setCell ⟨w.heap.size + 1 + 1 + 1 + 1, 0, none⟩ (.int .i64 0)).setCell ⟨w.heap.size + 1 + 1 + 1 + 1, 1, none⟩ (.slice none 0 0))).heap.size := by simpa using hw
    generalize (W1s1.setCell ⟨w.heap.size + 1 + 1 + 1 + 1, 0, none⟩ (.int .i64 0)).setCell ⟨w.heap.size + 1 + 1 + 1 + 1, 1, none⟩ (.slice none 0 0) = W1s2 at *
    obtain ⟨r_none, q_none, r_rV, q_rV, r_rB, q_rB, r_rA, q_rA, r_to, q_to, r_v, q_v, r_from, q_from, -⟩ := HT.out.rules
    have z_none : w.heap.size + 1 + 1 + 1 + 1 + 1 + 1 < W1s2.heap.size := (HT.out.in_ 0 rfl rfl).2
    have z_rV : w.heap.size + 1 + 1 + 1 + 1 + 1 < W1s2.heap.size := (HT.out.in_ 1 rfl rfl).2
    have z_rB : w.heap.size + 1 + 1 + 1 + 1 < W1s2.heap.size := (HT.out.in_ 2 rfl rfl).2
    have z_rA : w.heap.size + 1 + 1 + 1 < W1s2.heap.size := (HT.out.in_ 3 rfl rfl).2
    have z_to : w.heap.size + 1 + 1 < W1s2.heap.size := (HT.out.in_ 4 rfl rfl).2
    have z_v : w.heap.size + 1 < W1s2.heap.size := (HT.out.in_ 5 rfl rfl).2
    have z_from : w.heap.size < W1s2.heap.size := (HT.out.in_ 6 rfl rfl).2
    refine ⟨?_, ?_⟩
    · simp only [Again, pick, List.getElem?_toArray, List.getElem?_cons_succ, List.getElem?_cons_zero]
      refine ⟨?_, ?_, trivial⟩
      all_goals (still_step; exact wpStill_nil rfl)
    refine plan_loud ?_
    simp only [pick, List.getElem?_toArray, List.getElem?_cons_succ, List.getElem?_cons_zero]
    go_wp2_with fail
    clear r_none q_none r_rV q_rV r_rB q_rB r_rA q_rA r_to q_to r_v q_v r_from q_from z_none z_rV z_rB z_rA z_to z_v z_from
    obtain ⟨T', K'⟩ := HT.out.put2 1 (.int .i64 0) (.int .i64 0) rfl rfl
    simp only [List.set_cons_succ, List.set_cons_zero] at T' K'
    replace HT := Lib.hid T'
    replace Hr := Lib.hid (Hr.out.move (by decide) K')
    replace Hq := Lib.hid (Hq.out.move (by decide) K')
    clear T' K'
    replace hw : w.heap.size + 1 + 1 + 1 + 1 + 1 + 1 + 1 ≤ (((W1s2.setCell ⟨w.heap.size + 1 + 1 + 1 + 1 + 1, 0, none⟩ (.int .i64 0)).setCell ⟨w.heap.size + 1 + 1 + 1 + 1 + 1, 1, none⟩ (.int .i64 0))).heap.size := by simpa using hw
    generalize (W1s2.setCell ⟨w.heap.size + 1 + 1 + 1 + 1 + 1, 0, none⟩ (.int .i64 0)).setCell ⟨w.heap.size + 1 + 1 + 1 + 1 + 1, 1, none⟩ (.int .i64 0) = W1s3 at *
    obtain ⟨r_none, q_none, r_rV, q_rV, r_rB, q_rB, r_rA, q_rA, r_to, q_to, r_v, q_v, r_from, q_from, -⟩ := HT.out.rules
    have z_none : w.heap.size + 1 + 1 + 1 + 1 + 1 + 1 < W1s3.heap.size := (HT.out.in_ 0 rfl rfl).2
    have z_rV : w.heap.size + 1 + 1 + 1 + 1 + 1 < W1s3.heap.size := (HT.out.in_ 1 rfl rfl).2
    have z_rB : w.heap.size + 1 + 1 + 1 + 1 < W1s3.heap.size := (HT.out.in_ 2 rfl rfl).2
    have z_rA : w.heap.size + 1 + 1 + 1 < W1s3.heap.size := (HT.out.in_ 3 rfl rfl).2
    have z_to : w.heap.size + 1 + 1 < W1s3.heap.size := (HT.out.in_ 4 rfl rfl).2
    have z_v : w.heap.size + 1 < W1s3.heap.size := (HT.out.in_ 5 rfl rfl).2
    have z_from : w.heap.size < W1s3.heap.size := (HT.out.in_ 6 rfl rfl).2
    refine ⟨?_, ?_⟩
    · simp only [Again, pick, List.getElem?_toArray, List.getElem?_cons_succ, List.getElem?_cons_zero]
      refine ⟨?_, trivial⟩
      all_goals (still_step; exact wpStill_nil rfl)
    refine plan_still ?_
    simp only [pick, List.getElem?_toArray, List.getElem?_cons_succ, List.getElem?_cons_zero]
    repeat still_step
    refine wpStill_nil ?_
    refine plan_end (NoPanic.normal ?_)
    go_wp2_with fail
    refine bodyPost_ret (v := .tuple #[.agg #[.int .i64 0, .slice none 0 0], .agg #[.int .i64 0, .slice none 0 0], .agg #[.int .i64 0, .int .i64 0], .int .i64 8]) (by simp [results, Try.results8, go_sem, r_rA, r_rB, r_rV]) rfl (by rw [HRF.out]; exact ⟨_, _, rfl, .zero, .zero, HT.out.below.drew⟩)
end Go.Proofs.Ytabcjdalifhpdaa
