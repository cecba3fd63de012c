/- The walk of treadwheelref.CollectedOf. No condition beside what is read. -/
import Derived.Test.YtfafnjkinolkmaaCollFix
import Derived.Test.YtfafnjkinolkmaaCollP
import Derived.Test.YtfafnjkinolkmaaStB
import Derived.Test.YtfafnjkinolkmaaReachD
import Derived.Test.YtfafnjkinolkmaaLedP
import Derived.Test.YtfafnjkinolkmaaHeapMay
import Derived.Test.YtfafnjkinolkmaaTransferOf
namespace Go.Proofs.Ytfafnjkinolkmaa
open Go.RowKit

/-- The places of the numbers below i. -/
def ranks (l : List Int) (i : Nat) : List Int := (List.range i).map (rankL 0 l)
def plR (l : List Int) (n i : Nat) : List Int := ranks l i ++ List.replicate (n - i) 0
theorem ranks_len (l : List Int) (i : Nat) : (ranks l i).length = i := by simp [ranks]
theorem ranks_at {l : List Int} {n i : Nat} (h : i < n) : (ranks l n)[i]? = some (rankL 0 l i) := by simp [ranks, h]
theorem ranks_ref {l : List Int} {n : Nat} {x : Int} (h : x ∈ l) (hx : 0 ≤ x ∧ x < n) : 0 ≤ x ∧ x < (ranks l n).length ∧ (ranks l n)[x.toNat]? = some (plM 0 (keepL n l) x) := by
  obtain ⟨i, rfl⟩ := Int.eq_ofNat_of_zero_le hx.1
  refine ⟨hx.1, by rw [ranks_len]; exact hx.2, ?_⟩
  rw [Int.toNat_natCast, ranks_at (by omega), rank_plM (by omega) h, rankL, if_pos h]
theorem plR_len {l : List Int} {n i : Nat} (h : i ≤ n) : (plR l n i).length = n := by simp [plR, ranks_len]; omega
theorem plR_all (l : List Int) (n : Nat) : plR l n n = ranks l n := by simp [plR]
theorem plR_zero (l : List Int) (n : Nat) : (plR l n 0).map (Value.int .i64) = List.replicate n (.int .i64 0) := by simp [plR, ranks]
theorem plR_put {l : List Int} {n i : Nat} (h : i < n) : (plR l n i).set i (rankL 0 l i) = plR l n (i + 1) := by
  unfold plR
  rw [List.set_append_right _ _ (by rw [ranks_len]; exact Nat.le_refl _), ranks_len, Nat.sub_self, show n - i = (n - (i + 1)) + 1 by omega, List.replicate_succ, List.set_cons_zero]
  simp [ranks, List.range_succ]
theorem plR_no {l : List Int} {n i : Nat} (h : i < n) (hm : ¬ (i : Int) ∈ l) : (plR l n i).set i (-1) = plR l n (i + 1) := by
  rw [← plR_put h, rankL, if_neg hm]
theorem plR_yes {l : List Int} {n i : Nat} (h : i < n) (hm : (i : Int) ∈ l) : ((plR l n i).set i (-1)).set i ((keepL i l).length : Int) = plR l n (i + 1) := by
  rw [List.set_set, ← plR_put h, rankL, if_pos hm]
theorem rd_o_dead {w : World} {S : Nat → Prop} {b o n c : Nat} {xs : List Ob} (h : RdSl obE w S (.slice (some ⟨b, o, none⟩) n c) xs) {i : Nat} {x : Ob} (hx : xs[i]? = some x) : w.cell? ⟨b, o + i * 2 + 1, none⟩ = some (.bool x.dead) := by
  obtain ⟨b', o', B, d, e, _, _, _, y, _⟩ := h.at_o hx
  injection e with e
  injection e with e1 e2
  subst e1 e2
  exact y
set_option maxRecDepth 100000 in
set_option maxHeartbeats 8000000 in
theorem collectedOf_any (m : Int) (S T : Nat → Prop) (A R : Option Addr) (c d : Nat) (os : List Ob) (rs : List V) (w : World) (hr : RdSl obE w S (.slice A os.length c) os) (hq : RdSl vE w T (.slice R rs.length d) rs) :
    Calls Try.prog 26 #[.agg #[.int .i64 m, .slice A os.length c], .slice R rs.length d] w (CollD w ⟨m, os⟩ rs (reachL os rs)) := by
  obtain ⟨-, h1, h2, h3⟩ := hr.lims
  obtain ⟨-, h4, h5, h6⟩ := hq.lims
  obtain ⟨j0, hj0, hy0, hy1, hy2⟩ := info_parts (show (Try.prog.info? 3).map (fun i => (i.zero, i.size, i.bytes)) = some (some (.int .i64 0), 1, 8) by kernel_rfl)
  have hfb : os.length * 32 ≤ 140737488355328 := h3
  have hqb : rs.length * 16 ≤ 140737488355328 := h6
  have Hr := Lib.hid hr
  have Hq := Lib.hid hq
  clear hr hq h3 h6
  have T0 : St w.heap.size w (((w.alloc (.cells #[.int .i64 m, .slice A os.length c] 26)).alloc (.cells #[.int .i64 0, .slice none 0 0] 26))) [.blk (w.heap.size + 1) #[.int .i64 0, .slice none 0 0] 26, .blk w.heap.size #[.int .i64 m, .slice A os.length c] 26] := ((((St.start w (Nat.le_refl _)).new' #[.int .i64 m, .slice A os.length c] 26 (w.heap.size) (by simp)).1).new' #[.int .i64 0, .slice none 0 0] 26 (w.heap.size + 1) (by simp)).1
  have HT := Lib.hid T0
  have hz : w.heap.size + 1 + 1 ≤ ((w.alloc (.cells #[.int .i64 m, .slice A os.length c] 26)).alloc (.cells #[.int .i64 0, .slice none 0 0] 26)).heap.size := by simp
  clear T0
  replace Hr : Hid (RdSl obE (((w.alloc (.cells #[.int .i64 m, .slice A os.length c] 26)).alloc (.cells #[.int .i64 0, .slice none 0 0] 26))) (Fr 0 [.blk (w.heap.size + 1) #[.int .i64 0, .slice none 0 0] 26, .blk w.heap.size #[.int .i64 m, .slice A os.length c] 26]) (.slice A os.length c) os) := Lib.hid (Hr.out.pool (by decide) HT.out)
  replace Hq : Hid (RdSl vE (((w.alloc (.cells #[.int .i64 m, .slice A os.length c] 26)).alloc (.cells #[.int .i64 0, .slice none 0 0] 26))) (Fr 0 [.blk (w.heap.size + 1) #[.int .i64 0, .slice none 0 0] 26, .blk w.heap.size #[.int .i64 m, .slice A os.length c] 26]) (.slice R rs.length d) rs) := Lib.hid (Hq.out.pool (by decide) HT.out)
  by_cases hp : hpB ⟨m, os⟩ rs = true
  · have Hok := Lib.hid (hpB_refs hp)
    have Hslim := Lib.hid (hpB_slim hp)
    have Hp := Lib.hid hp
    clear hp
    go_enter Try.func26, Try.ntmps26
    go_upto_region 1 with fail
    generalize ((w.alloc (.cells #[.int .i64 m, .slice A os.length c] 26)).alloc (.cells #[.int .i64 0, .slice none 0 0] 26)) = W3 at *
    obtain ⟨r_rH, q_rH, r_h, q_h, -⟩ := HT.out.rules
    have z_rH : w.heap.size + 1 < W3.heap.size := (HT.out.in_ 0 rfl rfl).2
    have z_h : w.heap.size < W3.heap.size := (HT.out.in_ 1 rfl rfl).2
    go_wp2_with fail
    refine (may_is m _ _ A R c d os rs _ _ Hp.out Hr.out Hq.out).mono ?_
    rintro en W4 ⟨rfl, hb⟩
    clear r_rH q_rH r_h q_h z_rH z_h
    obtain ⟨T', K'⟩ := HT.out.call hb
    replace T' : St w.heap.size w W4 [.blk (w.heap.size + 1) #[.int .i64 0, .slice none 0 0] 26, .blk w.heap.size #[.int .i64 m, .slice A os.length c] 26] := T'
    replace K' : Keeps W3 [.blk (w.heap.size + 1) #[.int .i64 0, .slice none 0 0] 26, .blk w.heap.size #[.int .i64 m, .slice A os.length c] 26] W4 [.blk (w.heap.size + 1) #[.int .i64 0, .slice none 0 0] 26, .blk w.heap.size #[.int .i64 m, .slice A os.length c] 26] := K'
    replace HT := Lib.hid T'
    replace Hr : Hid (RdSl obE W4 (Fr 0 [.blk (w.heap.size + 1) #[.int .i64 0, .slice none 0 0] 26, .blk w.heap.size #[.int .i64 m, .slice A os.length c] 26]) (.slice A os.length c) os) := Lib.hid (Hr.out.move (by decide) K')
    replace Hq : Hid (RdSl vE W4 (Fr 0 [.blk (w.heap.size + 1) #[.int .i64 0, .slice none 0 0] 26, .blk w.heap.size #[.int .i64 m, .slice A os.length c] 26]) (.slice R rs.length d) rs) := Lib.hid (Hq.out.move (by decide) K')
    clear T' K'
    replace hz : w.heap.size + 1 + 1 ≤ W4.heap.size := Nat.le_trans hz hb.size
    clear hb
    obtain ⟨r_rH, q_rH, r_h, q_h, -⟩ := HT.out.rules
    have z_rH : w.heap.size + 1 < W4.heap.size := (HT.out.in_ 0 rfl rfl).2
    have z_h : w.heap.size < W4.heap.size := (HT.out.in_ 1 rfl rfl).2
    go_wp2_with fail
    refine (ledTo_any m _ _ A R c d os rs _ Hr.out Hq.out Hok.out Hslim.out).mono ?_
    rintro en W5 ⟨v3, l, rfl, hled, htold, hown3, hb⟩
    obtain ⟨R3, c3, rfl⟩ := own_form hown3
    have hl60 : l.length ≤ os.length := htold.len
    have hfew := Hok.out.few
    have hrd := (own_i hown3 (by omega)).rd.keep (S' := fun b => (W4).heap.size ≤ b) (by decide) (fun b _ h => ⟨h.elim (fun h => h.elim) id, rfl⟩)
    clear hown3
    clear r_rH q_rH r_h q_h z_rH z_h
    have Hfresh := Lib.hid (HT.out)
    have hzo : w.heap.size ≤ W4.heap.size := by omega
    obtain ⟨T', K'⟩ := HT.out.call hb
    replace T' : St w.heap.size w W5 [.blk (w.heap.size + 1) #[.int .i64 0, .slice none 0 0] 26, .blk w.heap.size #[.int .i64 m, .slice A os.length c] 26] := T'
    replace K' : Keeps W4 [.blk (w.heap.size + 1) #[.int .i64 0, .slice none 0 0] 26, .blk w.heap.size #[.int .i64 m, .slice A os.length c] 26] W5 [.blk (w.heap.size + 1) #[.int .i64 0, .slice none 0 0] 26, .blk w.heap.size #[.int .i64 m, .slice A os.length c] 26] := K'
    replace HT := Lib.hid T'
    replace Hr : Hid (RdSl obE W5 (Fr 0 [.blk (w.heap.size + 1) #[.int .i64 0, .slice none 0 0] 26, .blk w.heap.size #[.int .i64 m, .slice A os.length c] 26]) (.slice A os.length c) os) := Lib.hid (Hr.out.move (by decide) K')
    replace Hq : Hid (RdSl vE W5 (Fr 0 [.blk (w.heap.size + 1) #[.int .i64 0, .slice none 0 0] 26, .blk w.heap.size #[.int .i64 m, .slice A os.length c] 26]) (.slice R rs.length d) rs) := Lib.hid (Hq.out.move (by decide) K')
    clear T' K'
    replace hz : w.heap.size + 1 + 1 ≤ W5.heap.size := Nat.le_trans hz hb.size
    clear hb
    have HL : Hid (RdSl iE W5 (Fr w.heap.size [.blk (w.heap.size + 1) #[.int .i64 0, .slice none 0 0] 26, .blk w.heap.size #[.int .i64 m, .slice A os.length c] 26]) (.slice R3 l.length c3) l) := Lib.hid (hrd.fresh (by first | decide | (show 0 < 1; omega)) Hfresh.out hzo)
    clear hrd
    clear Hfresh hzo
    obtain ⟨r_rH, q_rH, r_h, q_h, -⟩ := HT.out.rules
    have z_rH : w.heap.size + 1 < W5.heap.size := (HT.out.in_ 0 rfl rfl).2
    have z_h : w.heap.size < W5.heap.size := (HT.out.in_ 1 rfl rfl).2
    have HRL := Lib.hid (reachL_is hled)
    have Hshut := Lib.hid hled.shut
    have Hroot := Lib.hid hled.roots
    have Hin := Lib.hid htold.within
    clear hled htold
    obtain ⟨K, hK⟩ : ∃ K, keepL os.length l = K := ⟨_, rfl⟩
    have hpost : CollD w ⟨m, os⟩ rs (reachL os rs) = fun en w' => ∃ u A c, en = .returned (.tuple #[u, .slice A rs.length c, .int .i64 0]) ∧ RdH w' w.heap.size u ⟨m, K.map (keptO os K)⟩ ∧ RdSl vE w' (fun b => w.heap.size ≤ b) (.slice A rs.length c) (rs.map (newV (plM 0 K))) ∧ Below w.heap.size w w' := by
      have hn : ¬ hpB ⟨m, os⟩ rs = false := by rw [Hp.out]; decide
      funext en w'
      unfold CollD collV collH collE
      rw [HRL.out, if_neg hn, if_neg hn, if_neg hn, List.length_map, hK]
    have HP := Lib.hid hpost
    have HK := Lib.hid hK
    have hKl : K.length ≤ os.length := by rw [← hK]; exact keepL_len _ _
    clear hpost HRL hK
    go_wp2_with (at_make; go_loud (refine wpList_make_full _ rfl (.tmp 24) (.tmp 24) 48 rfl W5.heap.size 3 j0 _ 1 Try.underlying48 hj0 hy0 hy1 _ _ _ _ os.length rfl rfl rfl rfl (by rw [hy2]; omega) (by unfold maxLen; omega) (Nat.le_refl _) ?next))
    case next =>
      intro W6 hown hgr
      replace hown := made_rep alike_int hown
      rw [← plR_zero l os.length] at hown
      obtain ⟨T', K'⟩ := HT.out.ownRow ((Below.refl _ _).grown hgr (Nat.le_refl _) (fun k hk => by cases hk)) hown (m := w.heap.size) (by omega)
      replace T' : St w.heap.size w W6 [.row w.heap.size 3 1 (.slice (some ⟨W5.heap.size, 0, none⟩) os.length os.length) os.length ((plR l os.length 0).map (.int .i64)), .blk (w.heap.size + 1) #[.int .i64 0, .slice none 0 0] 26, .blk w.heap.size #[.int .i64 m, .slice A os.length c] 26] := T'
      replace K' : Keeps W5 [.blk (w.heap.size + 1) #[.int .i64 0, .slice none 0 0] 26, .blk w.heap.size #[.int .i64 m, .slice A os.length c] 26] W6 [.row w.heap.size 3 1 (.slice (some ⟨W5.heap.size, 0, none⟩) os.length os.length) os.length ((plR l os.length 0).map (.int .i64)), .blk (w.heap.size + 1) #[.int .i64 0, .slice none 0 0] 26, .blk w.heap.size #[.int .i64 m, .slice A os.length c] 26] := K'
      replace HT := Lib.hid T'
      replace Hr : Hid (RdSl obE W6 (Fr 0 [.row w.heap.size 3 1 (.slice (some ⟨W5.heap.size, 0, none⟩) os.length os.length) os.length ((plR l os.length 0).map (.int .i64)), .blk (w.heap.size + 1) #[.int .i64 0, .slice none 0 0] 26, .blk w.heap.size #[.int .i64 m, .slice A os.length c] 26]) (.slice A os.length c) os) := Lib.hid (Hr.out.move (by decide) K')
      replace Hq : Hid (RdSl vE W6 (Fr 0 [.row w.heap.size 3 1 (.slice (some ⟨W5.heap.size, 0, none⟩) os.length os.length) os.length ((plR l os.length 0).map (.int .i64)), .blk (w.heap.size + 1) #[.int .i64 0, .slice none 0 0] 26, .blk w.heap.size #[.int .i64 m, .slice A os.length c] 26]) (.slice R rs.length d) rs) := Lib.hid (Hq.out.move (by decide) K')
      replace HL : Hid (RdSl iE W6 (Fr w.heap.size [.row w.heap.size 3 1 (.slice (some ⟨W5.heap.size, 0, none⟩) os.length os.length) os.length ((plR l os.length 0).map (.int .i64)), .blk (w.heap.size + 1) #[.int .i64 0, .slice none 0 0] 26, .blk w.heap.size #[.int .i64 m, .slice A os.length c] 26]) (.slice R3 l.length c3) l) := Lib.hid (HL.out.move (by decide) K')
      clear T' K'
      replace hz : w.heap.size + 1 + 1 ≤ W6.heap.size := Nat.le_trans hz hgr.size
      clear hown hgr hj0 hy0 hy1 hy2
      clear r_rH q_rH r_h q_h z_rH z_h
      obtain ⟨r_rH, q_rH, r_h, q_h, -⟩ := HT.out.rules
      have z_rH : w.heap.size + 1 < W6.heap.size := (HT.out.in_ 1 rfl rfl).2
      have z_h : w.heap.size < W6.heap.size := (HT.out.in_ 2 rfl rfl).2
      go_upto_region 5 with fail
      obtain ⟨T', K'⟩ := HT.out.new' #[.slice (some ⟨W5.heap.size, 0, none⟩) os.length os.length] 48 W6.heap.size (by first | (simp; done) | rfl)
      replace T' : St w.heap.size w ((W6.alloc (.cells #[.slice (some ⟨W5.heap.size, 0, none⟩) os.length os.length] 48))) [.blk W6.heap.size #[.slice (some ⟨W5.heap.size, 0, none⟩) os.length os.length] 48, .row w.heap.size 3 1 (.slice (some ⟨W5.heap.size, 0, none⟩) os.length os.length) os.length ((plR l os.length 0).map (.int .i64)), .blk (w.heap.size + 1) #[.int .i64 0, .slice none 0 0] 26, .blk w.heap.size #[.int .i64 m, .slice A os.length c] 26] := T'
      replace K' : Keeps W6 [.row w.heap.size 3 1 (.slice (some ⟨W5.heap.size, 0, none⟩) os.length os.length) os.length ((plR l os.length 0).map (.int .i64)), .blk (w.heap.size + 1) #[.int .i64 0, .slice none 0 0] 26, .blk w.heap.size #[.int .i64 m, .slice A os.length c] 26] ((W6.alloc (.cells #[.slice (some ⟨W5.heap.size, 0, none⟩) os.length os.length] 48))) [.blk W6.heap.size #[.slice (some ⟨W5.heap.size, 0, none⟩) os.length os.length] 48, .row w.heap.size 3 1 (.slice (some ⟨W5.heap.size, 0, none⟩) os.length os.length) os.length ((plR l os.length 0).map (.int .i64)), .blk (w.heap.size + 1) #[.int .i64 0, .slice none 0 0] 26, .blk w.heap.size #[.int .i64 m, .slice A os.length c] 26] := K'
      replace HT := Lib.hid T'
      replace Hr : Hid (RdSl obE ((W6.alloc (.cells #[.slice (some ⟨W5.heap.size, 0, none⟩) os.length os.length] 48))) (Fr 0 [.blk W6.heap.size #[.slice (some ⟨W5.heap.size, 0, none⟩) os.length os.length] 48, .row w.heap.size 3 1 (.slice (some ⟨W5.heap.size, 0, none⟩) os.length os.length) os.length ((plR l os.length 0).map (.int .i64)), .blk (w.heap.size + 1) #[.int .i64 0, .slice none 0 0] 26, .blk w.heap.size #[.int .i64 m, .slice A os.length c] 26]) (.slice A os.length c) os) := Lib.hid (Hr.out.move (by decide) K')
      replace Hq : Hid (RdSl vE ((W6.alloc (.cells #[.slice (some ⟨W5.heap.size, 0, none⟩) os.length os.length] 48))) (Fr 0 [.blk W6.heap.size #[.slice (some ⟨W5.heap.size, 0, none⟩) os.length os.length] 48, .row w.heap.size 3 1 (.slice (some ⟨W5.heap.size, 0, none⟩) os.length os.length) os.length ((plR l os.length 0).map (.int .i64)), .blk (w.heap.size + 1) #[.int .i64 0, .slice none 0 0] 26, .blk w.heap.size #[.int .i64 m, .slice A os.length c] 26]) (.slice R rs.length d) rs) := Lib.hid (Hq.out.move (by decide) K')
      replace HL : Hid (RdSl iE ((W6.alloc (.cells #[.slice (some ⟨W5.heap.size, 0, none⟩) os.length os.length] 48))) (Fr w.heap.size [.blk W6.heap.size #[.slice (some ⟨W5.heap.size, 0, none⟩) os.length os.length] 48, .row w.heap.size 3 1 (.slice (some ⟨W5.heap.size, 0, none⟩) os.length os.length) os.length ((plR l os.length 0).map (.int .i64)), .blk (w.heap.size + 1) #[.int .i64 0, .slice none 0 0] 26, .blk w.heap.size #[.int .i64 m, .slice A os.length c] 26]) (.slice R3 l.length c3) l) := Lib.hid (HL.out.move (by decide) K')
      clear T' K'
      replace hz : w.heap.size + 1 + 1 ≤ ((W6.alloc (.cells #[.slice (some ⟨W5.heap.size, 0, none⟩) os.length os.length] 48))).heap.size := Nat.le_trans hz (by simp)
      clear r_rH q_rH r_h q_h z_rH z_h
      generalize (W6.alloc (.cells #[.slice (some ⟨W5.heap.size, 0, none⟩) os.length os.length] 48)) = W7 at *
      obtain ⟨r_place, q_place, -, -, r_h, q_h, -⟩ := HT.out.rules
      have z_place : W6.heap.size < W7.heap.size := (HT.out.in_ 0 rfl rfl).2
      have z_h : w.heap.size < W7.heap.size := (HT.out.in_ 3 rfl rfl).2
      go_wp2_with fail
      go_loopw [10, 9] (fun i n wl8 => ∃ k : Nat, i = .int .i64 k ∧ n = .int .i64 ((keepL k l).length : Int) ∧ k ≤ os.length ∧ St w.heap.size w wl8 [.blk W6.heap.size #[.slice (some ⟨W5.heap.size, 0, none⟩) os.length os.length] 48, .row w.heap.size 3 1 (.slice (some ⟨W5.heap.size, 0, none⟩) os.length os.length) os.length ((plR l os.length k).map (.int .i64)), .blk (w.heap.size + 1) #[.int .i64 0, .slice none 0 0] 26, .blk w.heap.size #[.int .i64 m, .slice A os.length c] 26] ∧ RdSl obE wl8 (Fr 0 [.blk W6.heap.size #[.slice (some ⟨W5.heap.size, 0, none⟩) os.length os.length] 48, .row w.heap.size 3 1 (.slice (some ⟨W5.heap.size, 0, none⟩) os.length os.length) os.length ((plR l os.length k).map (.int .i64)), .blk (w.heap.size + 1) #[.int .i64 0, .slice none 0 0] 26, .blk w.heap.size #[.int .i64 m, .slice A os.length c] 26]) (.slice A os.length c) os ∧ RdSl vE wl8 (Fr 0 [.blk W6.heap.size #[.slice (some ⟨W5.heap.size, 0, none⟩) os.length os.length] 48, .row w.heap.size 3 1 (.slice (some ⟨W5.heap.size, 0, none⟩) os.length os.length) os.length ((plR l os.length k).map (.int .i64)), .blk (w.heap.size + 1) #[.int .i64 0, .slice none 0 0] 26, .blk w.heap.size #[.int .i64 m, .slice A os.length c] 26]) (.slice R rs.length d) rs ∧ RdSl iE wl8 (Fr w.heap.size [.blk W6.heap.size #[.slice (some ⟨W5.heap.size, 0, none⟩) os.length os.length] 48, .row w.heap.size 3 1 (.slice (some ⟨W5.heap.size, 0, none⟩) os.length os.length) os.length ((plR l os.length k).map (.int .i64)), .blk (w.heap.size + 1) #[.int .i64 0, .slice none 0 0] 26, .blk w.heap.size #[.int .i64 m, .slice A os.length c] 26]) (.slice R3 l.length c3) l ∧ w.heap.size + 1 + 1 ≤ wl8.heap.size) (fun i _ _ => os.length - (intOf i).toNat)
      case atStart =>
        refine ⟨0, ?_, ?_, ?_, ?_, ?_, ?_, ?_, ?_⟩
        · rfl
        · rfl
        · exact Nat.zero_le _
        · with_reducible exact HT.out
        · with_reducible exact Hr.out
        · with_reducible exact Hq.out
        · with_reducible exact HL.out
        · exact hz
      case round =>
        generalize wr = wl8 at *
        clear HT Hr Hq HL hz
        obtain ⟨k, rfl, rfl, hk, ht, pHr, pHq, pHL, hz⟩ := hrel
        have HT := Lib.hid ht
        have Hr : Hid (RdSl obE wl8 (Fr 0 [.blk W6.heap.size #[.slice (some ⟨W5.heap.size, 0, none⟩) os.length os.length] 48, .row w.heap.size 3 1 (.slice (some ⟨W5.heap.size, 0, none⟩) os.length os.length) os.length ((plR l os.length k).map (.int .i64)), .blk (w.heap.size + 1) #[.int .i64 0, .slice none 0 0] 26, .blk w.heap.size #[.int .i64 m, .slice A os.length c] 26]) (.slice A os.length c) os) := Lib.hid pHr
        have Hq : Hid (RdSl vE wl8 (Fr 0 [.blk W6.heap.size #[.slice (some ⟨W5.heap.size, 0, none⟩) os.length os.length] 48, .row w.heap.size 3 1 (.slice (some ⟨W5.heap.size, 0, none⟩) os.length os.length) os.length ((plR l os.length k).map (.int .i64)), .blk (w.heap.size + 1) #[.int .i64 0, .slice none 0 0] 26, .blk w.heap.size #[.int .i64 m, .slice A os.length c] 26]) (.slice R rs.length d) rs) := Lib.hid pHq
        have HL : Hid (RdSl iE wl8 (Fr w.heap.size [.blk W6.heap.size #[.slice (some ⟨W5.heap.size, 0, none⟩) os.length os.length] 48, .row w.heap.size 3 1 (.slice (some ⟨W5.heap.size, 0, none⟩) os.length os.length) os.length ((plR l os.length k).map (.int .i64)), .blk (w.heap.size + 1) #[.int .i64 0, .slice none 0 0] 26, .blk w.heap.size #[.int .i64 m, .slice A os.length c] 26]) (.slice R3 l.length c3) l) := Lib.hid pHL
        clear ht pHr pHq pHL
        obtain ⟨r_place, q_place, -, -, r_h, q_h, -⟩ := HT.out.rules
        have z_place : W6.heap.size < wl8.heap.size := (HT.out.in_ 0 rfl rfl).2
        have z_h : w.heap.size < wl8.heap.size := (HT.out.in_ 3 rfl rfl).2
        by_cases hlt : k < os.length
        · have hk60 := keepL_len k l
          obtain ⟨z, hz9⟩ : ∃ z, (plR l os.length k)[k]? = some z := ⟨_, List.getElem?_eq_getElem (by rw [plR_len hk]; exact hlt)⟩
          have f_P := fun i => HT.out.rowFree 1 rfl i
          have c_P := HT.out.iCell 1 rfl hz9
          have i1 : (0 : Int) ≤ (k : Int) := by omega
          have i2 : (k : Int) < (os.length : Int) := by omega
          clear hz9
          go_upto_region 10 with fail
          clear r_place q_place r_h q_h z_place z_h f_P c_P
          obtain ⟨T', K'⟩ := HT.out.iPut 1 k (-1) rfl
          replace T' : St w.heap.size w ((wl8.setCell ⟨W5.heap.size, k, none⟩ (.int .i64 (-1)))) [.blk W6.heap.size #[.slice (some ⟨W5.heap.size, 0, none⟩) os.length os.length] 48, .row w.heap.size 3 1 (.slice (some ⟨W5.heap.size, 0, none⟩) os.length os.length) os.length (((plR l os.length k).set k (-1)).map (.int .i64)), .blk (w.heap.size + 1) #[.int .i64 0, .slice none 0 0] 26, .blk w.heap.size #[.int .i64 m, .slice A os.length c] 26] := T'
          replace K' : Keeps wl8 [.blk W6.heap.size #[.slice (some ⟨W5.heap.size, 0, none⟩) os.length os.length] 48, .row w.heap.size 3 1 (.slice (some ⟨W5.heap.size, 0, none⟩) os.length os.length) os.length ((plR l os.length k).map (.int .i64)), .blk (w.heap.size + 1) #[.int .i64 0, .slice none 0 0] 26, .blk w.heap.size #[.int .i64 m, .slice A os.length c] 26] ((wl8.setCell ⟨W5.heap.size, k, none⟩ (.int .i64 (-1)))) [.blk W6.heap.size #[.slice (some ⟨W5.heap.size, 0, none⟩) os.length os.length] 48, .row w.heap.size 3 1 (.slice (some ⟨W5.heap.size, 0, none⟩) os.length os.length) os.length (((plR l os.length k).set k (-1)).map (.int .i64)), .blk (w.heap.size + 1) #[.int .i64 0, .slice none 0 0] 26, .blk w.heap.size #[.int .i64 m, .slice A os.length c] 26] := K'
          replace HT := Lib.hid T'
          replace Hr : Hid (RdSl obE ((wl8.setCell ⟨W5.heap.size, k, none⟩ (.int .i64 (-1)))) (Fr 0 [.blk W6.heap.size #[.slice (some ⟨W5.heap.size, 0, none⟩) os.length os.length] 48, .row w.heap.size 3 1 (.slice (some ⟨W5.heap.size, 0, none⟩) os.length os.length) os.length (((plR l os.length k).set k (-1)).map (.int .i64)), .blk (w.heap.size + 1) #[.int .i64 0, .slice none 0 0] 26, .blk w.heap.size #[.int .i64 m, .slice A os.length c] 26]) (.slice A os.length c) os) := Lib.hid (Hr.out.move (by decide) K')
          replace Hq : Hid (RdSl vE ((wl8.setCell ⟨W5.heap.size, k, none⟩ (.int .i64 (-1)))) (Fr 0 [.blk W6.heap.size #[.slice (some ⟨W5.heap.size, 0, none⟩) os.length os.length] 48, .row w.heap.size 3 1 (.slice (some ⟨W5.heap.size, 0, none⟩) os.length os.length) os.length (((plR l os.length k).set k (-1)).map (.int .i64)), .blk (w.heap.size + 1) #[.int .i64 0, .slice none 0 0] 26, .blk w.heap.size #[.int .i64 m, .slice A os.length c] 26]) (.slice R rs.length d) rs) := Lib.hid (Hq.out.move (by decide) K')
          replace HL : Hid (RdSl iE ((wl8.setCell ⟨W5.heap.size, k, none⟩ (.int .i64 (-1)))) (Fr w.heap.size [.blk W6.heap.size #[.slice (some ⟨W5.heap.size, 0, none⟩) os.length os.length] 48, .row w.heap.size 3 1 (.slice (some ⟨W5.heap.size, 0, none⟩) os.length os.length) os.length (((plR l os.length k).set k (-1)).map (.int .i64)), .blk (w.heap.size + 1) #[.int .i64 0, .slice none 0 0] 26, .blk w.heap.size #[.int .i64 m, .slice A os.length c] 26]) (.slice R3 l.length c3) l) := Lib.hid (HL.out.move (by decide) K')
          clear T' K'
          replace hz : w.heap.size + 1 + 1 ≤ ((wl8.setCell ⟨W5.heap.size, k, none⟩ (.int .i64 (-1)))).heap.size := by simpa using hz
          generalize (wl8.setCell ⟨W5.heap.size, k, none⟩ (.int .i64 (-1))) = W9 at *
          obtain ⟨r_place, q_place, -, -, r_h, q_h, -⟩ := HT.out.rules
          have z_place : W6.heap.size < W9.heap.size := (HT.out.in_ 0 rfl rfl).2
          have z_h : w.heap.size < W9.heap.size := (HT.out.in_ 3 rfl rfl).2
          go_wp2_with fail
          obtain ⟨rr, hrr⟩ : ∃ r, decide ((k : Int) ∈ l) = r := ⟨_, rfl⟩
          refine (has_is _ _ _ l (k : Int) _ rr hrr HL.out).mono ?_
          rintro en W' ⟨rfl, hw9⟩
          rw [hw9]
          clear hw9
          cases rr
          · have hmem : ¬ (k : Int) ∈ l := of_decide_eq_false hrr
            have HN := Lib.hid (plR_no hlt hmem)
            have hkk : (keepL (k + 1) l).length = (keepL k l).length := by rw [keepL_succ, if_neg hmem]; simp
            have HKK := Lib.hid hkk
            clear hrr hmem hkk
            go_wp2_with fail
            rw [HN.out] at HT Hr Hq HL
            replace Hr : Hid (RdSl obE W9 (Fr 0 [.blk W6.heap.size #[.slice (some ⟨W5.heap.size, 0, none⟩) os.length os.length] 48, .row w.heap.size 3 1 (.slice (some ⟨W5.heap.size, 0, none⟩) os.length os.length) os.length ((plR l os.length (k + 1)).map (.int .i64)), .blk (w.heap.size + 1) #[.int .i64 0, .slice none 0 0] 26, .blk w.heap.size #[.int .i64 m, .slice A os.length c] 26]) (.slice A os.length c) os) := Hr
            replace Hq : Hid (RdSl vE W9 (Fr 0 [.blk W6.heap.size #[.slice (some ⟨W5.heap.size, 0, none⟩) os.length os.length] 48, .row w.heap.size 3 1 (.slice (some ⟨W5.heap.size, 0, none⟩) os.length os.length) os.length ((plR l os.length (k + 1)).map (.int .i64)), .blk (w.heap.size + 1) #[.int .i64 0, .slice none 0 0] 26, .blk w.heap.size #[.int .i64 m, .slice A os.length c] 26]) (.slice R rs.length d) rs) := Hq
            replace HL : Hid (RdSl iE W9 (Fr w.heap.size [.blk W6.heap.size #[.slice (some ⟨W5.heap.size, 0, none⟩) os.length os.length] 48, .row w.heap.size 3 1 (.slice (some ⟨W5.heap.size, 0, none⟩) os.length os.length) os.length ((plR l os.length (k + 1)).map (.int .i64)), .blk (w.heap.size + 1) #[.int .i64 0, .slice none 0 0] 26, .blk w.heap.size #[.int .i64 m, .slice A os.length c] 26]) (.slice R3 l.length c3) l) := HL
            clear r_place q_place r_h q_h z_place z_h
            go_roundw
            case rel =>
              refine ⟨k + 1, ?_, ?_, ?_, ?_, ?_, ?_, ?_, ?_⟩
              · go_num
              · rw [HKK.out]
              · omega
              · with_reducible exact HT.out
              · with_reducible exact Hr.out
              · with_reducible exact Hq.out
              · with_reducible exact HL.out
              · exact hz
            case measure => simp [intOf]; omega
          · have hmem : (k : Int) ∈ l := of_decide_eq_true hrr
            have HN := Lib.hid (plR_yes hlt hmem)
            have hkk : ((keepL (k + 1) l).length : Int) = ((keepL k l).length : Int) + 1 := by rw [keepL_succ, if_pos hmem]; simp
            have HKK := Lib.hid hkk
            clear hrr hmem hkk
            obtain ⟨z, hz9⟩ : ∃ z, ((plR l os.length k).set k (-1))[k]? = some z := ⟨_, List.getElem?_eq_getElem (by rw [List.length_set, plR_len hk]; exact hlt)⟩
            have f_P := fun i => HT.out.rowFree 1 rfl i
            have c_P := HT.out.iCell 1 rfl hz9
            clear hz9
            go_upto_region 12 with fail
            clear r_place q_place r_h q_h z_place z_h f_P c_P
            obtain ⟨T', K'⟩ := HT.out.iPut 1 k ((keepL k l).length : Int) rfl
            replace T' : St w.heap.size w ((W9.setCell ⟨W5.heap.size, k, none⟩ (.int .i64 ((keepL k l).length : Int)))) [.blk W6.heap.size #[.slice (some ⟨W5.heap.size, 0, none⟩) os.length os.length] 48, .row w.heap.size 3 1 (.slice (some ⟨W5.heap.size, 0, none⟩) os.length os.length) os.length ((((plR l os.length k).set k (-1)).set k ((keepL k l).length : Int)).map (.int .i64)), .blk (w.heap.size + 1) #[.int .i64 0, .slice none 0 0] 26, .blk w.heap.size #[.int .i64 m, .slice A os.length c] 26] := T'
            replace K' : Keeps W9 [.blk W6.heap.size #[.slice (some ⟨W5.heap.size, 0, none⟩) os.length os.length] 48, .row w.heap.size 3 1 (.slice (some ⟨W5.heap.size, 0, none⟩) os.length os.length) os.length (((plR l os.length k).set k (-1)).map (.int .i64)), .blk (w.heap.size + 1) #[.int .i64 0, .slice none 0 0] 26, .blk w.heap.size #[.int .i64 m, .slice A os.length c] 26] ((W9.setCell ⟨W5.heap.size, k, none⟩ (.int .i64 ((keepL k l).length : Int)))) [.blk W6.heap.size #[.slice (some ⟨W5.heap.size, 0, none⟩) os.length os.length] 48, .row w.heap.size 3 1 (.slice (some ⟨W5.heap.size, 0, none⟩) os.length os.length) os.length ((((plR l os.length k).set k (-1)).set k ((keepL k l).length : Int)).map (.int .i64)), .blk (w.heap.size + 1) #[.int .i64 0, .slice none 0 0] 26, .blk w.heap.size #[.int .i64 m, .slice A os.length c] 26] := K'
            replace HT := Lib.hid T'
            replace Hr : Hid (RdSl obE ((W9.setCell ⟨W5.heap.size, k, none⟩ (.int .i64 ((keepL k l).length : Int)))) (Fr 0 [.blk W6.heap.size #[.slice (some ⟨W5.heap.size, 0, none⟩) os.length os.length] 48, .row w.heap.size 3 1 (.slice (some ⟨W5.heap.size, 0, none⟩) os.length os.length) os.length ((((plR l os.length k).set k (-1)).set k ((keepL k l).length : Int)).map (.int .i64)), .blk (w.heap.size + 1) #[.int .i64 0, .slice none 0 0] 26, .blk w.heap.size #[.int .i64 m, .slice A os.length c] 26]) (.slice A os.length c) os) := Lib.hid (Hr.out.move (by decide) K')
            replace Hq : Hid (RdSl vE ((W9.setCell ⟨W5.heap.size, k, none⟩ (.int .i64 ((keepL k l).length : Int)))) (Fr 0 [.blk W6.heap.size #[.slice (some ⟨W5.heap.size, 0, none⟩) os.length os.length] 48, .row w.heap.size 3 1 (.slice (some ⟨W5.heap.size, 0, none⟩) os.length os.length) os.length ((((plR l os.length k).set k (-1)).set k ((keepL k l).length : Int)).map (.int .i64)), .blk (w.heap.size + 1) #[.int .i64 0, .slice none 0 0] 26, .blk w.heap.size #[.int .i64 m, .slice A os.length c] 26]) (.slice R rs.length d) rs) := Lib.hid (Hq.out.move (by decide) K')
            replace HL : Hid (RdSl iE ((W9.setCell ⟨W5.heap.size, k, none⟩ (.int .i64 ((keepL k l).length : Int)))) (Fr w.heap.size [.blk W6.heap.size #[.slice (some ⟨W5.heap.size, 0, none⟩) os.length os.length] 48, .row w.heap.size 3 1 (.slice (some ⟨W5.heap.size, 0, none⟩) os.length os.length) os.length ((((plR l os.length k).set k (-1)).set k ((keepL k l).length : Int)).map (.int .i64)), .blk (w.heap.size + 1) #[.int .i64 0, .slice none 0 0] 26, .blk w.heap.size #[.int .i64 m, .slice A os.length c] 26]) (.slice R3 l.length c3) l) := Lib.hid (HL.out.move (by decide) K')
            clear T' K'
            replace hz : w.heap.size + 1 + 1 ≤ ((W9.setCell ⟨W5.heap.size, k, none⟩ (.int .i64 ((keepL k l).length : Int)))).heap.size := by simpa using hz
            generalize (W9.setCell ⟨W5.heap.size, k, none⟩ (.int .i64 ((keepL k l).length : Int))) = W10 at *
            rw [HN.out] at HT Hr Hq HL
            replace Hr : Hid (RdSl obE W10 (Fr 0 [.blk W6.heap.size #[.slice (some ⟨W5.heap.size, 0, none⟩) os.length os.length] 48, .row w.heap.size 3 1 (.slice (some ⟨W5.heap.size, 0, none⟩) os.length os.length) os.length ((plR l os.length (k + 1)).map (.int .i64)), .blk (w.heap.size + 1) #[.int .i64 0, .slice none 0 0] 26, .blk w.heap.size #[.int .i64 m, .slice A os.length c] 26]) (.slice A os.length c) os) := Hr
            replace Hq : Hid (RdSl vE W10 (Fr 0 [.blk W6.heap.size #[.slice (some ⟨W5.heap.size, 0, none⟩) os.length os.length] 48, .row w.heap.size 3 1 (.slice (some ⟨W5.heap.size, 0, none⟩) os.length os.length) os.length ((plR l os.length (k + 1)).map (.int .i64)), .blk (w.heap.size + 1) #[.int .i64 0, .slice none 0 0] 26, .blk w.heap.size #[.int .i64 m, .slice A os.length c] 26]) (.slice R rs.length d) rs) := Hq
            replace HL : Hid (RdSl iE W10 (Fr w.heap.size [.blk W6.heap.size #[.slice (some ⟨W5.heap.size, 0, none⟩) os.length os.length] 48, .row w.heap.size 3 1 (.slice (some ⟨W5.heap.size, 0, none⟩) os.length os.length) os.length ((plR l os.length (k + 1)).map (.int .i64)), .blk (w.heap.size + 1) #[.int .i64 0, .slice none 0 0] 26, .blk w.heap.size #[.int .i64 m, .slice A os.length c] 26]) (.slice R3 l.length c3) l) := HL
            replace HT : Hid (St w.heap.size w W10 [.blk W6.heap.size #[.slice (some ⟨W5.heap.size, 0, none⟩) os.length os.length] 48, .row w.heap.size 3 1 (.slice (some ⟨W5.heap.size, 0, none⟩) os.length os.length) os.length ((plR l os.length (k + 1)).map (.int .i64)), .blk (w.heap.size + 1) #[.int .i64 0, .slice none 0 0] 26, .blk w.heap.size #[.int .i64 m, .slice A os.length c] 26]) := HT
            obtain ⟨r_place, q_place, -, -, r_h, q_h, -⟩ := HT.out.rules
            have z_place : W6.heap.size < W10.heap.size := (HT.out.in_ 0 rfl rfl).2
            have z_h : w.heap.size < W10.heap.size := (HT.out.in_ 3 rfl rfl).2
            go_wp2_with fail
            clear r_place q_place r_h q_h z_place z_h
            go_roundw
            case rel =>
              refine ⟨k + 1, ?_, ?_, ?_, ?_, ?_, ?_, ?_, ?_⟩
              · go_num
              · rw [HKK.out]
              · omega
              · with_reducible exact HT.out
              · with_reducible exact Hr.out
              · with_reducible exact Hq.out
              · with_reducible exact HL.out
              · exact hz
            case measure => simp [intOf]; omega
        · have hkk : k = os.length := by omega
          subst hkk
          rw [plR_all] at HT Hr Hq HL
          clear hk hlt
          replace Hr : Hid (RdSl obE wl8 (Fr 0 [.blk W6.heap.size #[.slice (some ⟨W5.heap.size, 0, none⟩) os.length os.length] 48, .row w.heap.size 3 1 (.slice (some ⟨W5.heap.size, 0, none⟩) os.length os.length) os.length ((ranks l os.length).map (.int .i64)), .blk (w.heap.size + 1) #[.int .i64 0, .slice none 0 0] 26, .blk w.heap.size #[.int .i64 m, .slice A os.length c] 26]) (.slice A os.length c) os) := Hr
          replace Hq : Hid (RdSl vE wl8 (Fr 0 [.blk W6.heap.size #[.slice (some ⟨W5.heap.size, 0, none⟩) os.length os.length] 48, .row w.heap.size 3 1 (.slice (some ⟨W5.heap.size, 0, none⟩) os.length os.length) os.length ((ranks l os.length).map (.int .i64)), .blk (w.heap.size + 1) #[.int .i64 0, .slice none 0 0] 26, .blk w.heap.size #[.int .i64 m, .slice A os.length c] 26]) (.slice R rs.length d) rs) := Hq
          replace HL : Hid (RdSl iE wl8 (Fr w.heap.size [.blk W6.heap.size #[.slice (some ⟨W5.heap.size, 0, none⟩) os.length os.length] 48, .row w.heap.size 3 1 (.slice (some ⟨W5.heap.size, 0, none⟩) os.length os.length) os.length ((ranks l os.length).map (.int .i64)), .blk (w.heap.size + 1) #[.int .i64 0, .slice none 0 0] 26, .blk w.heap.size #[.int .i64 m, .slice A os.length c] 26]) (.slice R3 l.length c3) l) := HL
          replace HT : Hid (St w.heap.size w wl8 [.blk W6.heap.size #[.slice (some ⟨W5.heap.size, 0, none⟩) os.length os.length] 48, .row w.heap.size 3 1 (.slice (some ⟨W5.heap.size, 0, none⟩) os.length os.length) os.length ((ranks l os.length).map (.int .i64)), .blk (w.heap.size + 1) #[.int .i64 0, .slice none 0 0] 26, .blk w.heap.size #[.int .i64 m, .slice A os.length c] 26]) := HT
          have hPr := HT.out.outI (n := 0) 1 (xs := ranks l os.length) rfl (ranks_len _ _).symm (by rw [ranks_len]; omega) (Nat.zero_le _)
          skip
          clear r_place q_place r_h q_h z_place z_h
          obtain ⟨T', K'⟩ := HT.out.drop 1
          replace T' : St w.heap.size w wl8 [.blk W6.heap.size #[.slice (some ⟨W5.heap.size, 0, none⟩) os.length os.length] 48, .blk (w.heap.size + 1) #[.int .i64 0, .slice none 0 0] 26, .blk w.heap.size #[.int .i64 m, .slice A os.length c] 26] := T'
          replace K' : Keeps wl8 [.blk W6.heap.size #[.slice (some ⟨W5.heap.size, 0, none⟩) os.length os.length] 48, .row w.heap.size 3 1 (.slice (some ⟨W5.heap.size, 0, none⟩) os.length os.length) os.length ((ranks l os.length).map (.int .i64)), .blk (w.heap.size + 1) #[.int .i64 0, .slice none 0 0] 26, .blk w.heap.size #[.int .i64 m, .slice A os.length c] 26] wl8 [.blk W6.heap.size #[.slice (some ⟨W5.heap.size, 0, none⟩) os.length os.length] 48, .blk (w.heap.size + 1) #[.int .i64 0, .slice none 0 0] 26, .blk w.heap.size #[.int .i64 m, .slice A os.length c] 26] := K'
          replace HT := Lib.hid T'
          replace Hr : Hid (RdSl obE wl8 (Fr 0 [.blk W6.heap.size #[.slice (some ⟨W5.heap.size, 0, none⟩) os.length os.length] 48, .blk (w.heap.size + 1) #[.int .i64 0, .slice none 0 0] 26, .blk w.heap.size #[.int .i64 m, .slice A os.length c] 26]) (.slice A os.length c) os) := Lib.hid (Hr.out.move (by decide) K')
          replace Hq : Hid (RdSl vE wl8 (Fr 0 [.blk W6.heap.size #[.slice (some ⟨W5.heap.size, 0, none⟩) os.length os.length] 48, .blk (w.heap.size + 1) #[.int .i64 0, .slice none 0 0] 26, .blk w.heap.size #[.int .i64 m, .slice A os.length c] 26]) (.slice R rs.length d) rs) := Lib.hid (Hq.out.move (by decide) K')
          replace HL : Hid (RdSl iE wl8 (Fr w.heap.size [.blk W6.heap.size #[.slice (some ⟨W5.heap.size, 0, none⟩) os.length os.length] 48, .blk (w.heap.size + 1) #[.int .i64 0, .slice none 0 0] 26, .blk w.heap.size #[.int .i64 m, .slice A os.length c] 26]) (.slice R3 l.length c3) l) := Lib.hid (HL.out.move (by decide) K')
          clear T' K'
          have HPl : Hid (RdSl iE wl8 (Fr 0 [.blk W6.heap.size #[.slice (some ⟨W5.heap.size, 0, none⟩) os.length os.length] 48, .blk (w.heap.size + 1) #[.int .i64 0, .slice none 0 0] 26, .blk w.heap.size #[.int .i64 m, .slice A os.length c] 26]) (.slice (some ⟨W5.heap.size, 0, none⟩) os.length os.length) (ranks l os.length)) := Lib.hid hPr
          clear hPr HL
          obtain ⟨r_place, q_place, -, -, r_h, q_h, -⟩ := HT.out.rules
          have z_place : W6.heap.size < wl8.heap.size := (HT.out.in_ 0 rfl rfl).2
          have z_h : w.heap.size < wl8.heap.size := (HT.out.in_ 2 rfl rfl).2
          go_upto_region 15 with fail
          obtain ⟨T', K'⟩ := HT.out.new' #[.int .i64 m, .slice none 0 0] 26 wl8.heap.size (by first | (simp; done) | rfl)
          replace T' : St w.heap.size w ((wl8.alloc (.cells #[.int .i64 m, .slice none 0 0] 26))) [.blk wl8.heap.size #[.int .i64 m, .slice none 0 0] 26, .blk W6.heap.size #[.slice (some ⟨W5.heap.size, 0, none⟩) os.length os.length] 48, .blk (w.heap.size + 1) #[.int .i64 0, .slice none 0 0] 26, .blk w.heap.size #[.int .i64 m, .slice A os.length c] 26] := T'
          replace K' : Keeps wl8 [.blk W6.heap.size #[.slice (some ⟨W5.heap.size, 0, none⟩) os.length os.length] 48, .blk (w.heap.size + 1) #[.int .i64 0, .slice none 0 0] 26, .blk w.heap.size #[.int .i64 m, .slice A os.length c] 26] ((wl8.alloc (.cells #[.int .i64 m, .slice none 0 0] 26))) [.blk wl8.heap.size #[.int .i64 m, .slice none 0 0] 26, .blk W6.heap.size #[.slice (some ⟨W5.heap.size, 0, none⟩) os.length os.length] 48, .blk (w.heap.size + 1) #[.int .i64 0, .slice none 0 0] 26, .blk w.heap.size #[.int .i64 m, .slice A os.length c] 26] := K'
          replace HT := Lib.hid T'
          replace Hr : Hid (RdSl obE ((wl8.alloc (.cells #[.int .i64 m, .slice none 0 0] 26))) (Fr 0 [.blk wl8.heap.size #[.int .i64 m, .slice none 0 0] 26, .blk W6.heap.size #[.slice (some ⟨W5.heap.size, 0, none⟩) os.length os.length] 48, .blk (w.heap.size + 1) #[.int .i64 0, .slice none 0 0] 26, .blk w.heap.size #[.int .i64 m, .slice A os.length c] 26]) (.slice A os.length c) os) := Lib.hid (Hr.out.move (by decide) K')
          replace Hq : Hid (RdSl vE ((wl8.alloc (.cells #[.int .i64 m, .slice none 0 0] 26))) (Fr 0 [.blk wl8.heap.size #[.int .i64 m, .slice none 0 0] 26, .blk W6.heap.size #[.slice (some ⟨W5.heap.size, 0, none⟩) os.length os.length] 48, .blk (w.heap.size + 1) #[.int .i64 0, .slice none 0 0] 26, .blk w.heap.size #[.int .i64 m, .slice A os.length c] 26]) (.slice R rs.length d) rs) := Lib.hid (Hq.out.move (by decide) K')
          replace HPl : Hid (RdSl iE ((wl8.alloc (.cells #[.int .i64 m, .slice none 0 0] 26))) (Fr 0 [.blk wl8.heap.size #[.int .i64 m, .slice none 0 0] 26, .blk W6.heap.size #[.slice (some ⟨W5.heap.size, 0, none⟩) os.length os.length] 48, .blk (w.heap.size + 1) #[.int .i64 0, .slice none 0 0] 26, .blk w.heap.size #[.int .i64 m, .slice A os.length c] 26]) (.slice (some ⟨W5.heap.size, 0, none⟩) os.length os.length) (ranks l os.length)) := Lib.hid (HPl.out.move (by decide) K')
          clear T' K'
          replace hz : w.heap.size + 1 + 1 ≤ ((wl8.alloc (.cells #[.int .i64 m, .slice none 0 0] 26))).heap.size := Nat.le_trans hz (by simp)
          clear r_place q_place r_h q_h z_place z_h
          generalize (wl8.alloc (.cells #[.int .i64 m, .slice none 0 0] 26)) = W11 at *
          obtain ⟨T', K'⟩ := HT.out.nilRow w.heap.size 41 2
          replace T' : St w.heap.size w W11 [.row w.heap.size 41 2 (.slice none 0 0) 0 (cat []), .blk wl8.heap.size #[.int .i64 m, .slice none 0 0] 26, .blk W6.heap.size #[.slice (some ⟨W5.heap.size, 0, none⟩) os.length os.length] 48, .blk (w.heap.size + 1) #[.int .i64 0, .slice none 0 0] 26, .blk w.heap.size #[.int .i64 m, .slice A os.length c] 26] := T'
          replace K' : Keeps W11 [.blk wl8.heap.size #[.int .i64 m, .slice none 0 0] 26, .blk W6.heap.size #[.slice (some ⟨W5.heap.size, 0, none⟩) os.length os.length] 48, .blk (w.heap.size + 1) #[.int .i64 0, .slice none 0 0] 26, .blk w.heap.size #[.int .i64 m, .slice A os.length c] 26] W11 [.row w.heap.size 41 2 (.slice none 0 0) 0 (cat []), .blk wl8.heap.size #[.int .i64 m, .slice none 0 0] 26, .blk W6.heap.size #[.slice (some ⟨W5.heap.size, 0, none⟩) os.length os.length] 48, .blk (w.heap.size + 1) #[.int .i64 0, .slice none 0 0] 26, .blk w.heap.size #[.int .i64 m, .slice A os.length c] 26] := K'
          replace HT := Lib.hid T'
          replace Hr : Hid (RdSl obE W11 (Fr 0 [.row w.heap.size 41 2 (.slice none 0 0) 0 (cat []), .blk wl8.heap.size #[.int .i64 m, .slice none 0 0] 26, .blk W6.heap.size #[.slice (some ⟨W5.heap.size, 0, none⟩) os.length os.length] 48, .blk (w.heap.size + 1) #[.int .i64 0, .slice none 0 0] 26, .blk w.heap.size #[.int .i64 m, .slice A os.length c] 26]) (.slice A os.length c) os) := Lib.hid (Hr.out.move (by decide) K')
          replace Hq : Hid (RdSl vE W11 (Fr 0 [.row w.heap.size 41 2 (.slice none 0 0) 0 (cat []), .blk wl8.heap.size #[.int .i64 m, .slice none 0 0] 26, .blk W6.heap.size #[.slice (some ⟨W5.heap.size, 0, none⟩) os.length os.length] 48, .blk (w.heap.size + 1) #[.int .i64 0, .slice none 0 0] 26, .blk w.heap.size #[.int .i64 m, .slice A os.length c] 26]) (.slice R rs.length d) rs) := Lib.hid (Hq.out.move (by decide) K')
          replace HPl : Hid (RdSl iE W11 (Fr 0 [.row w.heap.size 41 2 (.slice none 0 0) 0 (cat []), .blk wl8.heap.size #[.int .i64 m, .slice none 0 0] 26, .blk W6.heap.size #[.slice (some ⟨W5.heap.size, 0, none⟩) os.length os.length] 48, .blk (w.heap.size + 1) #[.int .i64 0, .slice none 0 0] 26, .blk w.heap.size #[.int .i64 m, .slice A os.length c] 26]) (.slice (some ⟨W5.heap.size, 0, none⟩) os.length os.length) (ranks l os.length)) := Lib.hid (HPl.out.move (by decide) K')
          clear T' K'
          have HO : Hid (Held obE W11 (Fr w.heap.size [.row w.heap.size 41 2 (.slice none 0 0) 0 (cat []), .blk wl8.heap.size #[.int .i64 m, .slice none 0 0] 26, .blk W6.heap.size #[.slice (some ⟨W5.heap.size, 0, none⟩) os.length os.length] 48, .blk (w.heap.size + 1) #[.int .i64 0, .slice none 0 0] 26, .blk w.heap.size #[.int .i64 m, .slice A os.length c] 26]) [] ((keepL 0 l).map (keptO os K))) := Lib.hid Held.nil
          obtain ⟨r_out, q_out, r_place, q_place, -, -, r_h, q_h, -⟩ := HT.out.rules
          have z_out : wl8.heap.size < W11.heap.size := (HT.out.in_ 1 rfl rfl).2
          have z_place : W6.heap.size < W11.heap.size := (HT.out.in_ 2 rfl rfl).2
          have z_h : w.heap.size < W11.heap.size := (HT.out.in_ 4 rfl rfl).2
          go_wp2_with fail
          go_loopw [13] (fun i wl12 => ∃ (k : Nat) (vr : Value) (css : List (List Value)), i = .int .i64 k ∧ k ≤ os.length ∧ St w.heap.size w wl12 [.row w.heap.size 41 2 vr ((keepL k l).length) (cat css), .blk wl8.heap.size #[.int .i64 m, vr] 26, .blk W6.heap.size #[.slice (some ⟨W5.heap.size, 0, none⟩) os.length os.length] 48, .blk (w.heap.size + 1) #[.int .i64 0, .slice none 0 0] 26, .blk w.heap.size #[.int .i64 m, .slice A os.length c] 26] ∧ RdSl obE wl12 (Fr 0 [.row w.heap.size 41 2 vr ((keepL k l).length) (cat css), .blk wl8.heap.size #[.int .i64 m, vr] 26, .blk W6.heap.size #[.slice (some ⟨W5.heap.size, 0, none⟩) os.length os.length] 48, .blk (w.heap.size + 1) #[.int .i64 0, .slice none 0 0] 26, .blk w.heap.size #[.int .i64 m, .slice A os.length c] 26]) (.slice A os.length c) os ∧ RdSl vE wl12 (Fr 0 [.row w.heap.size 41 2 vr ((keepL k l).length) (cat css), .blk wl8.heap.size #[.int .i64 m, vr] 26, .blk W6.heap.size #[.slice (some ⟨W5.heap.size, 0, none⟩) os.length os.length] 48, .blk (w.heap.size + 1) #[.int .i64 0, .slice none 0 0] 26, .blk w.heap.size #[.int .i64 m, .slice A os.length c] 26]) (.slice R rs.length d) rs ∧ RdSl iE wl12 (Fr 0 [.row w.heap.size 41 2 vr ((keepL k l).length) (cat css), .blk wl8.heap.size #[.int .i64 m, vr] 26, .blk W6.heap.size #[.slice (some ⟨W5.heap.size, 0, none⟩) os.length os.length] 48, .blk (w.heap.size + 1) #[.int .i64 0, .slice none 0 0] 26, .blk w.heap.size #[.int .i64 m, .slice A os.length c] 26]) (.slice (some ⟨W5.heap.size, 0, none⟩) os.length os.length) (ranks l os.length) ∧ Held obE wl12 (Fr w.heap.size [.row w.heap.size 41 2 vr ((keepL k l).length) (cat css), .blk wl8.heap.size #[.int .i64 m, vr] 26, .blk W6.heap.size #[.slice (some ⟨W5.heap.size, 0, none⟩) os.length os.length] 48, .blk (w.heap.size + 1) #[.int .i64 0, .slice none 0 0] 26, .blk w.heap.size #[.int .i64 m, .slice A os.length c] 26]) css ((keepL k l).map (keptO os K)) ∧ w.heap.size + 1 + 1 ≤ wl12.heap.size) (fun i _ => os.length - (intOf i).toNat)
          case atStart =>
            refine ⟨0, .slice none 0 0, [], ?_, ?_, ?_, ?_, ?_, ?_, ?_, ?_⟩
            · rfl
            · exact Nat.zero_le _
            · exact HT.out
            · exact Hr.out
            · exact Hq.out
            · exact HPl.out
            · exact HO.out
            · exact hz
          case round =>
            generalize wr = wl12 at *
            clear HT Hr Hq HPl HO hz
            obtain ⟨k, vr, css, rfl, hk, ht, pHr, pHq, pHPl, pHO, hz⟩ := hrel
            have HT := Lib.hid ht
            have Hr : Hid (RdSl obE wl12 (Fr 0 [.row w.heap.size 41 2 vr ((keepL k l).length) (cat css), .blk wl8.heap.size #[.int .i64 m, vr] 26, .blk W6.heap.size #[.slice (some ⟨W5.heap.size, 0, none⟩) os.length os.length] 48, .blk (w.heap.size + 1) #[.int .i64 0, .slice none 0 0] 26, .blk w.heap.size #[.int .i64 m, .slice A os.length c] 26]) (.slice A os.length c) os) := Lib.hid pHr
            have Hq : Hid (RdSl vE wl12 (Fr 0 [.row w.heap.size 41 2 vr ((keepL k l).length) (cat css), .blk wl8.heap.size #[.int .i64 m, vr] 26, .blk W6.heap.size #[.slice (some ⟨W5.heap.size, 0, none⟩) os.length os.length] 48, .blk (w.heap.size + 1) #[.int .i64 0, .slice none 0 0] 26, .blk w.heap.size #[.int .i64 m, .slice A os.length c] 26]) (.slice R rs.length d) rs) := Lib.hid pHq
            have HPl : Hid (RdSl iE wl12 (Fr 0 [.row w.heap.size 41 2 vr ((keepL k l).length) (cat css), .blk wl8.heap.size #[.int .i64 m, vr] 26, .blk W6.heap.size #[.slice (some ⟨W5.heap.size, 0, none⟩) os.length os.length] 48, .blk (w.heap.size + 1) #[.int .i64 0, .slice none 0 0] 26, .blk w.heap.size #[.int .i64 m, .slice A os.length c] 26]) (.slice (some ⟨W5.heap.size, 0, none⟩) os.length os.length) (ranks l os.length)) := Lib.hid pHPl
            have HO : Hid (Held obE wl12 (Fr w.heap.size [.row w.heap.size 41 2 vr ((keepL k l).length) (cat css), .blk wl8.heap.size #[.int .i64 m, vr] 26, .blk W6.heap.size #[.slice (some ⟨W5.heap.size, 0, none⟩) os.length os.length] 48, .blk (w.heap.size + 1) #[.int .i64 0, .slice none 0 0] 26, .blk w.heap.size #[.int .i64 m, .slice A os.length c] 26]) css ((keepL k l).map (keptO os K))) := Lib.hid pHO
            clear ht pHr pHq pHPl pHO
            obtain ⟨Av, cv, rfl⟩ := own_form (HT.out.own 0 rfl)
            replace Hr : Hid (RdSl obE wl12 (Fr 0 [.row w.heap.size 41 2 (.slice Av (keepL k l).length cv) ((keepL k l).length) (cat css), .blk wl8.heap.size #[.int .i64 m, .slice Av (keepL k l).length cv] 26, .blk W6.heap.size #[.slice (some ⟨W5.heap.size, 0, none⟩) os.length os.length] 48, .blk (w.heap.size + 1) #[.int .i64 0, .slice none 0 0] 26, .blk w.heap.size #[.int .i64 m, .slice A os.length c] 26]) (.slice A os.length c) os) := Hr
            replace Hq : Hid (RdSl vE wl12 (Fr 0 [.row w.heap.size 41 2 (.slice Av (keepL k l).length cv) ((keepL k l).length) (cat css), .blk wl8.heap.size #[.int .i64 m, .slice Av (keepL k l).length cv] 26, .blk W6.heap.size #[.slice (some ⟨W5.heap.size, 0, none⟩) os.length os.length] 48, .blk (w.heap.size + 1) #[.int .i64 0, .slice none 0 0] 26, .blk w.heap.size #[.int .i64 m, .slice A os.length c] 26]) (.slice R rs.length d) rs) := Hq
            replace HPl : Hid (RdSl iE wl12 (Fr 0 [.row w.heap.size 41 2 (.slice Av (keepL k l).length cv) ((keepL k l).length) (cat css), .blk wl8.heap.size #[.int .i64 m, .slice Av (keepL k l).length cv] 26, .blk W6.heap.size #[.slice (some ⟨W5.heap.size, 0, none⟩) os.length os.length] 48, .blk (w.heap.size + 1) #[.int .i64 0, .slice none 0 0] 26, .blk w.heap.size #[.int .i64 m, .slice A os.length c] 26]) (.slice (some ⟨W5.heap.size, 0, none⟩) os.length os.length) (ranks l os.length)) := HPl
            replace HO : Hid (Held obE wl12 (Fr w.heap.size [.row w.heap.size 41 2 (.slice Av (keepL k l).length cv) ((keepL k l).length) (cat css), .blk wl8.heap.size #[.int .i64 m, .slice Av (keepL k l).length cv] 26, .blk W6.heap.size #[.slice (some ⟨W5.heap.size, 0, none⟩) os.length os.length] 48, .blk (w.heap.size + 1) #[.int .i64 0, .slice none 0 0] 26, .blk w.heap.size #[.int .i64 m, .slice A os.length c] 26]) css ((keepL k l).map (keptO os K))) := HO
            obtain ⟨r_out, q_out, r_place, q_place, -, -, r_h, q_h, -⟩ := HT.out.rules
            have z_out : wl8.heap.size < wl12.heap.size := (HT.out.in_ 1 rfl rfl).2
            have z_place : W6.heap.size < wl12.heap.size := (HT.out.in_ 2 rfl rfl).2
            have z_h : w.heap.size < wl12.heap.size := (HT.out.in_ 4 rfl rfl).2
            by_cases hlt : k < os.length
            · have hk60 := keepL_len k l
              obtain ⟨ob, hob⟩ : ∃ ob, os[k]? = some ob := ⟨_, List.getElem?_eq_getElem hlt⟩
              obtain ⟨pb, po, Bf, df, rfl, _, _, y1, y2, hfd⟩ := Hr.out.at_o hob
              have z0 := rd_iat HPl.out (ranks_at hlt)
              rw [Nat.zero_add] at z0
              have hko : keptO os K (k : Int) = ⟨ob.fields.map (newV (plM 0 K)), ob.dead⟩ := by simp [keptO, fieldsOf, deadAt, hob]
              obtain ⟨-, f1, f2, f3⟩ := hfd.lims
              have hf4 : ob.fields.length * 16 ≤ 140737488355328 := f3
              have Hko := Lib.hid hko
              have Hob := Lib.hid hob
              have Hfd := Lib.hid hfd
              have i1 : (0 : Int) ≤ (k : Int) := by omega
              have i2 : (k : Int) < (os.length : Int) := by omega
              clear hko hfd f3 hob
              replace Hfd : Hid (RdSl vE wl12 (Fr 0 [.row w.heap.size 41 2 (.slice Av (keepL k l).length cv) ((keepL k l).length) (cat css), .blk wl8.heap.size #[.int .i64 m, .slice Av (keepL k l).length cv] 26, .blk W6.heap.size #[.slice (some ⟨W5.heap.size, 0, none⟩) os.length os.length] 48, .blk (w.heap.size + 1) #[.int .i64 0, .slice none 0 0] 26, .blk w.heap.size #[.int .i64 m, .slice (some ⟨pb, po, none⟩) os.length c] 26]) (.slice Bf ob.fields.length df) ob.fields) := Hfd
              clear r_out q_out r_place q_place r_h q_h z_out z_place z_h
              obtain ⟨r_out, q_out, r_place, q_place, -, -, r_h, q_h, -⟩ := HT.out.rules
              have z_out : wl8.heap.size < wl12.heap.size := (HT.out.in_ 1 rfl rfl).2
              have z_place : W6.heap.size < wl12.heap.size := (HT.out.in_ 2 rfl rfl).2
              have z_h : w.heap.size < wl12.heap.size := (HT.out.in_ 4 rfl rfl).2
              by_cases hmem : (k : Int) ∈ l
              · have hrk : rankL 0 l k = ((keepL k l).length : Int) := if_pos hmem
                rw [hrk] at z0
                have j1 : (0 : Int) ≤ ((keepL k l).length : Int) := by omega
                have hgs : ∀ x ∈ ob.fields, x.k = 2 → 0 ≤ x.n ∧ x.n < (ranks l os.length).length ∧ (ranks l os.length)[x.n.toNat]? = some (plM 0 K x.n) := fun x hx hk2 => by
                  have hxl : x.n ∈ l := Hshut.out _ hmem x (by rw [show fieldsOf os (k : Int) = ob.fields by simp [fieldsOf, Hob.out]]; exact hx) hk2
                  rw [← HK.out]
                  exact ranks_ref hxl (Hin.out _ hxl)
                have Hgs := Lib.hid hgs
                have hkk : keepL (k + 1) l = keepL k l ++ [(k : Int)] := by rw [keepL_succ, if_pos hmem]
                have HKK := Lib.hid hkk
                have hkn : (keepL (k + 1) l).length = (keepL k l).length + 1 := by rw [hkk]; simp
                have HKN := Lib.hid hkn
                clear hrk hgs hkk hkn hmem
                go_wp2_with fail
                refine wp_region_plan [.still [0, 1, 2, 3, 4, 5, 6, 7, 8, 10, 11, 12, 13, 14, 15], .loud 9 [0, 1, 10, 11, 12, 13, 14, 15], .still [16], .loud 17 [0, 1], .loud 18 [], .still [19], .loud 20 []] (by kernel_rfl) (by kernel_rfl) ?_
                refine plan_still ?_
                simp only [pick, List.getElem?_toArray, List.getElem?_cons_succ, List.getElem?_cons_zero]
                repeat still_step
                refine wpStill_nil ?_
                refine plan_loud ?_
                simp only [pick, List.getElem?_toArray, List.getElem?_cons_succ, List.getElem?_cons_zero]
                go_wp2_with fail
                obtain ⟨T', K'⟩ := HT.out.drew'
                replace T' : St w.heap.size w wl12.drew [.row w.heap.size 41 2 (.slice Av (keepL k l).length cv) ((keepL k l).length) (cat css), .blk wl8.heap.size #[.int .i64 m, .slice Av (keepL k l).length cv] 26, .blk W6.heap.size #[.slice (some ⟨W5.heap.size, 0, none⟩) os.length os.length] 48, .blk (w.heap.size + 1) #[.int .i64 0, .slice none 0 0] 26, .blk w.heap.size #[.int .i64 m, .slice (some ⟨pb, po, none⟩) os.length c] 26] := T'
                replace K' : Keeps wl12 [.row w.heap.size 41 2 (.slice Av (keepL k l).length cv) ((keepL k l).length) (cat css), .blk wl8.heap.size #[.int .i64 m, .slice Av (keepL k l).length cv] 26, .blk W6.heap.size #[.slice (some ⟨W5.heap.size, 0, none⟩) os.length os.length] 48, .blk (w.heap.size + 1) #[.int .i64 0, .slice none 0 0] 26, .blk w.heap.size #[.int .i64 m, .slice (some ⟨pb, po, none⟩) os.length c] 26] wl12.drew [.row w.heap.size 41 2 (.slice Av (keepL k l).length cv) ((keepL k l).length) (cat css), .blk wl8.heap.size #[.int .i64 m, .slice Av (keepL k l).length cv] 26, .blk W6.heap.size #[.slice (some ⟨W5.heap.size, 0, none⟩) os.length os.length] 48, .blk (w.heap.size + 1) #[.int .i64 0, .slice none 0 0] 26, .blk w.heap.size #[.int .i64 m, .slice (some ⟨pb, po, none⟩) os.length c] 26] := K'
                replace HT := Lib.hid T'
                replace Hq : Hid (RdSl vE wl12.drew (Fr 0 [.row w.heap.size 41 2 (.slice Av (keepL k l).length cv) ((keepL k l).length) (cat css), .blk wl8.heap.size #[.int .i64 m, .slice Av (keepL k l).length cv] 26, .blk W6.heap.size #[.slice (some ⟨W5.heap.size, 0, none⟩) os.length os.length] 48, .blk (w.heap.size + 1) #[.int .i64 0, .slice none 0 0] 26, .blk w.heap.size #[.int .i64 m, .slice (some ⟨pb, po, none⟩) os.length c] 26]) (.slice R rs.length d) rs) := Lib.hid (Hq.out.move (by decide) K')
                replace HPl : Hid (RdSl iE wl12.drew (Fr 0 [.row w.heap.size 41 2 (.slice Av (keepL k l).length cv) ((keepL k l).length) (cat css), .blk wl8.heap.size #[.int .i64 m, .slice Av (keepL k l).length cv] 26, .blk W6.heap.size #[.slice (some ⟨W5.heap.size, 0, none⟩) os.length os.length] 48, .blk (w.heap.size + 1) #[.int .i64 0, .slice none 0 0] 26, .blk w.heap.size #[.int .i64 m, .slice (some ⟨pb, po, none⟩) os.length c] 26]) (.slice (some ⟨W5.heap.size, 0, none⟩) os.length os.length) (ranks l os.length)) := Lib.hid (HPl.out.move (by decide) K')
                replace HO : Hid (Held obE wl12.drew (Fr w.heap.size [.row w.heap.size 41 2 (.slice Av (keepL k l).length cv) ((keepL k l).length) (cat css), .blk wl8.heap.size #[.int .i64 m, .slice Av (keepL k l).length cv] 26, .blk W6.heap.size #[.slice (some ⟨W5.heap.size, 0, none⟩) os.length os.length] 48, .blk (w.heap.size + 1) #[.int .i64 0, .slice none 0 0] 26, .blk w.heap.size #[.int .i64 m, .slice (some ⟨pb, po, none⟩) os.length c] 26]) css ((keepL k l).map (keptO os K))) := Lib.hid (HO.out.move K')
                replace Hr : Hid (RdSl obE wl12.drew (Fr 0 [.row w.heap.size 41 2 (.slice Av (keepL k l).length cv) ((keepL k l).length) (cat css), .blk wl8.heap.size #[.int .i64 m, .slice Av (keepL k l).length cv] 26, .blk W6.heap.size #[.slice (some ⟨W5.heap.size, 0, none⟩) os.length os.length] 48, .blk (w.heap.size + 1) #[.int .i64 0, .slice none 0 0] 26, .blk w.heap.size #[.int .i64 m, .slice (some ⟨pb, po, none⟩) os.length c] 26]) (.slice (some ⟨pb, po, none⟩) os.length c) os) := Lib.hid (Hr.out.move (by decide) K')
                replace Hfd : Hid (RdSl vE wl12.drew (Fr 0 [.row w.heap.size 41 2 (.slice Av (keepL k l).length cv) ((keepL k l).length) (cat css), .blk wl8.heap.size #[.int .i64 m, .slice Av (keepL k l).length cv] 26, .blk W6.heap.size #[.slice (some ⟨W5.heap.size, 0, none⟩) os.length os.length] 48, .blk (w.heap.size + 1) #[.int .i64 0, .slice none 0 0] 26, .blk w.heap.size #[.int .i64 m, .slice (some ⟨pb, po, none⟩) os.length c] 26]) (.slice Bf ob.fields.length df) ob.fields) := Lib.hid (Hfd.out.move (by decide) K')
                clear T' K'
                replace hz : w.heap.size + 1 + 1 ≤ wl12.drew.heap.size := hz
                refine (collFix_any (plM 0 K) _ _ _ _ _ _ _ _ (ranks l os.length) _ Hfd.out (by rw [ranks_len]; exact cell_of_row _ _ 0 _ _ _ (HT.out.heap 2 rfl)) (by rw [ranks_len]; exact HPl.out) Hgs.out).mono ?_
                rintro en W13 ⟨vf, rfl, hown, hb⟩
                obtain ⟨Af, cf, rfl⟩ := own_formV hown
                have hrd := hown.rd.keep (S' := fun b => (wl12.drew).heap.size ≤ b) (by decide) (fun b _ h => ⟨h.elim (fun h => h.elim) id, rfl⟩)
                rw [List.length_map] at hrd
                rw [List.length_map]
                have hby := hb
                clear hown
                clear r_out q_out r_place q_place r_h q_h z_out z_place z_h
                have Hfresh := Lib.hid (HT.out)
                have hzo : w.heap.size ≤ wl12.drew.heap.size := by omega
                obtain ⟨T', K'⟩ := HT.out.call hb
                replace T' : St w.heap.size w W13 [.row w.heap.size 41 2 (.slice Av (keepL k l).length cv) ((keepL k l).length) (cat css), .blk wl8.heap.size #[.int .i64 m, .slice Av (keepL k l).length cv] 26, .blk W6.heap.size #[.slice (some ⟨W5.heap.size, 0, none⟩) os.length os.length] 48, .blk (w.heap.size + 1) #[.int .i64 0, .slice none 0 0] 26, .blk w.heap.size #[.int .i64 m, .slice (some ⟨pb, po, none⟩) os.length c] 26] := T'
                replace K' : Keeps wl12.drew [.row w.heap.size 41 2 (.slice Av (keepL k l).length cv) ((keepL k l).length) (cat css), .blk wl8.heap.size #[.int .i64 m, .slice Av (keepL k l).length cv] 26, .blk W6.heap.size #[.slice (some ⟨W5.heap.size, 0, none⟩) os.length os.length] 48, .blk (w.heap.size + 1) #[.int .i64 0, .slice none 0 0] 26, .blk w.heap.size #[.int .i64 m, .slice (some ⟨pb, po, none⟩) os.length c] 26] W13 [.row w.heap.size 41 2 (.slice Av (keepL k l).length cv) ((keepL k l).length) (cat css), .blk wl8.heap.size #[.int .i64 m, .slice Av (keepL k l).length cv] 26, .blk W6.heap.size #[.slice (some ⟨W5.heap.size, 0, none⟩) os.length os.length] 48, .blk (w.heap.size + 1) #[.int .i64 0, .slice none 0 0] 26, .blk w.heap.size #[.int .i64 m, .slice (some ⟨pb, po, none⟩) os.length c] 26] := K'
                replace HT := Lib.hid T'
                replace Hq : Hid (RdSl vE W13 (Fr 0 [.row w.heap.size 41 2 (.slice Av (keepL k l).length cv) ((keepL k l).length) (cat css), .blk wl8.heap.size #[.int .i64 m, .slice Av (keepL k l).length cv] 26, .blk W6.heap.size #[.slice (some ⟨W5.heap.size, 0, none⟩) os.length os.length] 48, .blk (w.heap.size + 1) #[.int .i64 0, .slice none 0 0] 26, .blk w.heap.size #[.int .i64 m, .slice (some ⟨pb, po, none⟩) os.length c] 26]) (.slice R rs.length d) rs) := Lib.hid (Hq.out.move (by decide) K')
                replace HPl : Hid (RdSl iE W13 (Fr 0 [.row w.heap.size 41 2 (.slice Av (keepL k l).length cv) ((keepL k l).length) (cat css), .blk wl8.heap.size #[.int .i64 m, .slice Av (keepL k l).length cv] 26, .blk W6.heap.size #[.slice (some ⟨W5.heap.size, 0, none⟩) os.length os.length] 48, .blk (w.heap.size + 1) #[.int .i64 0, .slice none 0 0] 26, .blk w.heap.size #[.int .i64 m, .slice (some ⟨pb, po, none⟩) os.length c] 26]) (.slice (some ⟨W5.heap.size, 0, none⟩) os.length os.length) (ranks l os.length)) := Lib.hid (HPl.out.move (by decide) K')
                replace HO : Hid (Held obE W13 (Fr w.heap.size [.row w.heap.size 41 2 (.slice Av (keepL k l).length cv) ((keepL k l).length) (cat css), .blk wl8.heap.size #[.int .i64 m, .slice Av (keepL k l).length cv] 26, .blk W6.heap.size #[.slice (some ⟨W5.heap.size, 0, none⟩) os.length os.length] 48, .blk (w.heap.size + 1) #[.int .i64 0, .slice none 0 0] 26, .blk w.heap.size #[.int .i64 m, .slice (some ⟨pb, po, none⟩) os.length c] 26]) css ((keepL k l).map (keptO os K))) := Lib.hid (HO.out.move K')
                replace Hr : Hid (RdSl obE W13 (Fr 0 [.row w.heap.size 41 2 (.slice Av (keepL k l).length cv) ((keepL k l).length) (cat css), .blk wl8.heap.size #[.int .i64 m, .slice Av (keepL k l).length cv] 26, .blk W6.heap.size #[.slice (some ⟨W5.heap.size, 0, none⟩) os.length os.length] 48, .blk (w.heap.size + 1) #[.int .i64 0, .slice none 0 0] 26, .blk w.heap.size #[.int .i64 m, .slice (some ⟨pb, po, none⟩) os.length c] 26]) (.slice (some ⟨pb, po, none⟩) os.length c) os) := Lib.hid (Hr.out.move (by decide) K')
                replace Hfd : Hid (RdSl vE W13 (Fr 0 [.row w.heap.size 41 2 (.slice Av (keepL k l).length cv) ((keepL k l).length) (cat css), .blk wl8.heap.size #[.int .i64 m, .slice Av (keepL k l).length cv] 26, .blk W6.heap.size #[.slice (some ⟨W5.heap.size, 0, none⟩) os.length os.length] 48, .blk (w.heap.size + 1) #[.int .i64 0, .slice none 0 0] 26, .blk w.heap.size #[.int .i64 m, .slice (some ⟨pb, po, none⟩) os.length c] 26]) (.slice Bf ob.fields.length df) ob.fields) := Lib.hid (Hfd.out.move (by decide) K')
                clear T' K'
                replace hz : w.heap.size + 1 + 1 ≤ W13.heap.size := Nat.le_trans hz hb.size
                clear hb
                have HF : Hid (RdSl vE W13 (Fr w.heap.size [.row w.heap.size 41 2 (.slice Av (keepL k l).length cv) ((keepL k l).length) (cat css), .blk wl8.heap.size #[.int .i64 m, .slice Av (keepL k l).length cv] 26, .blk W6.heap.size #[.slice (some ⟨W5.heap.size, 0, none⟩) os.length os.length] 48, .blk (w.heap.size + 1) #[.int .i64 0, .slice none 0 0] 26, .blk w.heap.size #[.int .i64 m, .slice (some ⟨pb, po, none⟩) os.length c] 26]) (.slice Af ob.fields.length cf) (ob.fields.map (newV (plM 0 K)))) := Lib.hid (hrd.fresh (by first | decide | (show 0 < 1; omega)) Hfresh.out hzo)
                clear hrd
                clear Hfresh hzo
                obtain ⟨r_out, q_out, r_place, q_place, -, -, r_h, q_h, -⟩ := HT.out.rules
                have z_out : wl8.heap.size < W13.heap.size := (HT.out.in_ 1 rfl rfl).2
                have z_place : W6.heap.size < W13.heap.size := (HT.out.in_ 2 rfl rfl).2
                have z_h : w.heap.size < W13.heap.size := (HT.out.in_ 4 rfl rfl).2
                clear y1 y2 hby
                obtain ⟨Bf2, df2, y1, _⟩ := rd_o_at Hr.out Hob.out
                have y2 := rd_o_dead Hr.out Hob.out
                go_wp2_with fail
                refine ⟨?_, ?_⟩
                · simp only [Again, pick, List.getElem?_toArray, List.getElem?_cons_succ, List.getElem?_cons_zero]
                  refine ⟨?_, ?_, ?_, ?_, ?_, ?_, ?_, ?_, trivial⟩
                  all_goals (still_step; exact wpStill_nil rfl)
                refine plan_still ?_
                simp only [pick, List.getElem?_toArray, List.getElem?_cons_succ, List.getElem?_cons_zero]
                repeat still_step
                refine wpStill_nil ?_
                refine plan_loud ?_
                simp only [pick, List.getElem?_toArray, List.getElem?_cons_succ, List.getElem?_cons_zero]
                go_wp2_with fail
                refine ⟨?_, ?_⟩
                · simp only [Again, pick, List.getElem?_toArray, List.getElem?_cons_succ, List.getElem?_cons_zero]
                  refine ⟨?_, ?_, trivial⟩
                  all_goals (still_step; exact wpStill_nil rfl)
                refine plan_loud ?_
                simp only [pick, List.getElem?_toArray, List.getElem?_cons_succ, List.getElem?_cons_zero]
                go_wp2_with (at_builtin; go_loud (refine wpList_append_css rfl (.tmp 62) (.tmp 78) _ rfl (e := 41) (size := 2) (bytes := 32) Try.underlying24 infoO rfl (by omega) HT.out 0 rfl rfl [Value.slice Af ob.fields.length cf, Value.bool ob.dead] 41 rfl rfl (by simp [Value.oneCell']) (by unfold maxLen; omega) (by omega) HT.out.base ?next))
                case next =>
                  intro A9 c9 wg T' K' hs3
                  clear r_out q_out r_place q_place r_h q_h z_out z_place z_h
                  clear y1 y2 z0
                  replace T' : St w.heap.size w wg [.row w.heap.size 41 2 (.slice A9 ((keepL k l).length + 1) c9) ((keepL k l).length + 1) (cat (css ++ [[Value.slice Af ob.fields.length cf, Value.bool ob.dead]])), .blk wl8.heap.size #[.int .i64 m, .slice Av (keepL k l).length cv] 26, .blk W6.heap.size #[.slice (some ⟨W5.heap.size, 0, none⟩) os.length os.length] 48, .blk (w.heap.size + 1) #[.int .i64 0, .slice none 0 0] 26, .blk w.heap.size #[.int .i64 m, .slice (some ⟨pb, po, none⟩) os.length c] 26] := T'
                  replace K' : Keeps W13 [.row w.heap.size 41 2 (.slice Av (keepL k l).length cv) ((keepL k l).length) (cat css), .blk wl8.heap.size #[.int .i64 m, .slice Av (keepL k l).length cv] 26, .blk W6.heap.size #[.slice (some ⟨W5.heap.size, 0, none⟩) os.length os.length] 48, .blk (w.heap.size + 1) #[.int .i64 0, .slice none 0 0] 26, .blk w.heap.size #[.int .i64 m, .slice (some ⟨pb, po, none⟩) os.length c] 26] wg [.row w.heap.size 41 2 (.slice A9 ((keepL k l).length + 1) c9) ((keepL k l).length + 1) (cat (css ++ [[Value.slice Af ob.fields.length cf, Value.bool ob.dead]])), .blk wl8.heap.size #[.int .i64 m, .slice Av (keepL k l).length cv] 26, .blk W6.heap.size #[.slice (some ⟨W5.heap.size, 0, none⟩) os.length os.length] 48, .blk (w.heap.size + 1) #[.int .i64 0, .slice none 0 0] 26, .blk w.heap.size #[.int .i64 m, .slice (some ⟨pb, po, none⟩) os.length c] 26] := K'
                  replace HT := Lib.hid T'
                  replace Hq : Hid (RdSl vE wg (Fr 0 [.row w.heap.size 41 2 (.slice A9 ((keepL k l).length + 1) c9) ((keepL k l).length + 1) (cat (css ++ [[Value.slice Af ob.fields.length cf, Value.bool ob.dead]])), .blk wl8.heap.size #[.int .i64 m, .slice Av (keepL k l).length cv] 26, .blk W6.heap.size #[.slice (some ⟨W5.heap.size, 0, none⟩) os.length os.length] 48, .blk (w.heap.size + 1) #[.int .i64 0, .slice none 0 0] 26, .blk w.heap.size #[.int .i64 m, .slice (some ⟨pb, po, none⟩) os.length c] 26]) (.slice R rs.length d) rs) := Lib.hid (Hq.out.move (by decide) K')
                  replace HPl : Hid (RdSl iE wg (Fr 0 [.row w.heap.size 41 2 (.slice A9 ((keepL k l).length + 1) c9) ((keepL k l).length + 1) (cat (css ++ [[Value.slice Af ob.fields.length cf, Value.bool ob.dead]])), .blk wl8.heap.size #[.int .i64 m, .slice Av (keepL k l).length cv] 26, .blk W6.heap.size #[.slice (some ⟨W5.heap.size, 0, none⟩) os.length os.length] 48, .blk (w.heap.size + 1) #[.int .i64 0, .slice none 0 0] 26, .blk w.heap.size #[.int .i64 m, .slice (some ⟨pb, po, none⟩) os.length c] 26]) (.slice (some ⟨W5.heap.size, 0, none⟩) os.length os.length) (ranks l os.length)) := Lib.hid (HPl.out.move (by decide) K')
                  replace HO : Hid (Held obE wg (Fr w.heap.size [.row w.heap.size 41 2 (.slice A9 ((keepL k l).length + 1) c9) ((keepL k l).length + 1) (cat (css ++ [[Value.slice Af ob.fields.length cf, Value.bool ob.dead]])), .blk wl8.heap.size #[.int .i64 m, .slice Av (keepL k l).length cv] 26, .blk W6.heap.size #[.slice (some ⟨W5.heap.size, 0, none⟩) os.length os.length] 48, .blk (w.heap.size + 1) #[.int .i64 0, .slice none 0 0] 26, .blk w.heap.size #[.int .i64 m, .slice (some ⟨pb, po, none⟩) os.length c] 26]) css ((keepL k l).map (keptO os K))) := Lib.hid (HO.out.move K')
                  replace Hr : Hid (RdSl obE wg (Fr 0 [.row w.heap.size 41 2 (.slice A9 ((keepL k l).length + 1) c9) ((keepL k l).length + 1) (cat (css ++ [[Value.slice Af ob.fields.length cf, Value.bool ob.dead]])), .blk wl8.heap.size #[.int .i64 m, .slice Av (keepL k l).length cv] 26, .blk W6.heap.size #[.slice (some ⟨W5.heap.size, 0, none⟩) os.length os.length] 48, .blk (w.heap.size + 1) #[.int .i64 0, .slice none 0 0] 26, .blk w.heap.size #[.int .i64 m, .slice (some ⟨pb, po, none⟩) os.length c] 26]) (.slice (some ⟨pb, po, none⟩) os.length c) os) := Lib.hid (Hr.out.move (by decide) K')
                  replace Hfd : Hid (RdSl vE wg (Fr 0 [.row w.heap.size 41 2 (.slice A9 ((keepL k l).length + 1) c9) ((keepL k l).length + 1) (cat (css ++ [[Value.slice Af ob.fields.length cf, Value.bool ob.dead]])), .blk wl8.heap.size #[.int .i64 m, .slice Av (keepL k l).length cv] 26, .blk W6.heap.size #[.slice (some ⟨W5.heap.size, 0, none⟩) os.length os.length] 48, .blk (w.heap.size + 1) #[.int .i64 0, .slice none 0 0] 26, .blk w.heap.size #[.int .i64 m, .slice (some ⟨pb, po, none⟩) os.length c] 26]) (.slice Bf ob.fields.length df) ob.fields) := Lib.hid (Hfd.out.move (by decide) K')
                  replace HF : Hid (RdSl vE wg (Fr w.heap.size [.row w.heap.size 41 2 (.slice A9 ((keepL k l).length + 1) c9) ((keepL k l).length + 1) (cat (css ++ [[Value.slice Af ob.fields.length cf, Value.bool ob.dead]])), .blk wl8.heap.size #[.int .i64 m, .slice Av (keepL k l).length cv] 26, .blk W6.heap.size #[.slice (some ⟨W5.heap.size, 0, none⟩) os.length os.length] 48, .blk (w.heap.size + 1) #[.int .i64 0, .slice none 0 0] 26, .blk w.heap.size #[.int .i64 m, .slice (some ⟨pb, po, none⟩) os.length c] 26]) (.slice Af ob.fields.length cf) (ob.fields.map (newV (plM 0 K)))) := Lib.hid (HF.out.move (by decide) K')
                  replace hz : w.heap.size + 1 + 1 ≤ wg.heap.size := by omega
                  clear T' K'
                  have hnew : Held obE wg (Fr w.heap.size [.row w.heap.size 41 2 (.slice A9 ((keepL k l).length + 1) c9) ((keepL k l).length + 1) (cat (css ++ [[Value.slice Af ob.fields.length cf, Value.bool ob.dead]])), .blk wl8.heap.size #[.int .i64 m, .slice Av (keepL k l).length cv] 26, .blk W6.heap.size #[.slice (some ⟨W5.heap.size, 0, none⟩) os.length os.length] 48, .blk (w.heap.size + 1) #[.int .i64 0, .slice none 0 0] 26, .blk w.heap.size #[.int .i64 m, .slice (some ⟨pb, po, none⟩) os.length c] 26]) (css ++ [[Value.slice Af ob.fields.length cf, Value.bool ob.dead]]) ((keepL (k + 1) l).map (keptO os K)) := by
                    rw [HKK.out, List.map_append, List.map_cons, List.map_nil, Hko.out]
                    exact HO.out.append (Held.single (E := obE) (cs := [Value.slice Af ob.fields.length cf, Value.bool ob.dead]) (x := ⟨ob.fields.map (newV (plM 0 K)), ob.dead⟩) rfl ⟨_, rfl, by simpa using HF.out⟩)
                  replace HO := Lib.hid hnew
                  clear hnew HF Hfd
                  obtain ⟨r_out, q_out, -⟩ := HT.out.rules
                  have z_out : wl8.heap.size < wg.heap.size := (HT.out.in_ 1 rfl rfl).2
                  go_wp2_with fail
                  refine ⟨trivial, ?_⟩
                  refine plan_still ?_
                  simp only [pick, List.getElem?_toArray, List.getElem?_cons_succ, List.getElem?_cons_zero]
                  repeat still_step
                  refine wpStill_nil ?_
                  refine plan_loud ?_
                  simp only [pick, List.getElem?_toArray, List.getElem?_cons_succ, List.getElem?_cons_zero]
                  go_wp2_with fail
                  clear r_out q_out z_out
                  obtain ⟨T', K'⟩ := HT.out.put 1 1 (.slice A9 ((keepL k l).length + 1) c9) rfl
                  replace T' : St w.heap.size w ((wg.setCell ⟨wl8.heap.size, 1, none⟩ (.slice A9 ((keepL k l).length + 1) c9))) [.row w.heap.size 41 2 (.slice A9 ((keepL k l).length + 1) c9) ((keepL k l).length + 1) (cat (css ++ [[Value.slice Af ob.fields.length cf, Value.bool ob.dead]])), .blk wl8.heap.size #[.int .i64 m, .slice A9 ((keepL k l).length + 1) c9] 26, .blk W6.heap.size #[.slice (some ⟨W5.heap.size, 0, none⟩) os.length os.length] 48, .blk (w.heap.size + 1) #[.int .i64 0, .slice none 0 0] 26, .blk w.heap.size #[.int .i64 m, .slice (some ⟨pb, po, none⟩) os.length c] 26] := T'
                  replace K' : Keeps wg [.row w.heap.size 41 2 (.slice A9 ((keepL k l).length + 1) c9) ((keepL k l).length + 1) (cat (css ++ [[Value.slice Af ob.fields.length cf, Value.bool ob.dead]])), .blk wl8.heap.size #[.int .i64 m, .slice Av (keepL k l).length cv] 26, .blk W6.heap.size #[.slice (some ⟨W5.heap.size, 0, none⟩) os.length os.length] 48, .blk (w.heap.size + 1) #[.int .i64 0, .slice none 0 0] 26, .blk w.heap.size #[.int .i64 m, .slice (some ⟨pb, po, none⟩) os.length c] 26] ((wg.setCell ⟨wl8.heap.size, 1, none⟩ (.slice A9 ((keepL k l).length + 1) c9))) [.row w.heap.size 41 2 (.slice A9 ((keepL k l).length + 1) c9) ((keepL k l).length + 1) (cat (css ++ [[Value.slice Af ob.fields.length cf, Value.bool ob.dead]])), .blk wl8.heap.size #[.int .i64 m, .slice A9 ((keepL k l).length + 1) c9] 26, .blk W6.heap.size #[.slice (some ⟨W5.heap.size, 0, none⟩) os.length os.length] 48, .blk (w.heap.size + 1) #[.int .i64 0, .slice none 0 0] 26, .blk w.heap.size #[.int .i64 m, .slice (some ⟨pb, po, none⟩) os.length c] 26] := K'
                  replace HT := Lib.hid T'
                  replace Hq : Hid (RdSl vE ((wg.setCell ⟨wl8.heap.size, 1, none⟩ (.slice A9 ((keepL k l).length + 1) c9))) (Fr 0 [.row w.heap.size 41 2 (.slice A9 ((keepL k l).length + 1) c9) ((keepL k l).length + 1) (cat (css ++ [[Value.slice Af ob.fields.length cf, Value.bool ob.dead]])), .blk wl8.heap.size #[.int .i64 m, .slice A9 ((keepL k l).length + 1) c9] 26, .blk W6.heap.size #[.slice (some ⟨W5.heap.size, 0, none⟩) os.length os.length] 48, .blk (w.heap.size + 1) #[.int .i64 0, .slice none 0 0] 26, .blk w.heap.size #[.int .i64 m, .slice (some ⟨pb, po, none⟩) os.length c] 26]) (.slice R rs.length d) rs) := Lib.hid (Hq.out.move (by decide) K')
                  replace HPl : Hid (RdSl iE ((wg.setCell ⟨wl8.heap.size, 1, none⟩ (.slice A9 ((keepL k l).length + 1) c9))) (Fr 0 [.row w.heap.size 41 2 (.slice A9 ((keepL k l).length + 1) c9) ((keepL k l).length + 1) (cat (css ++ [[Value.slice Af ob.fields.length cf, Value.bool ob.dead]])), .blk wl8.heap.size #[.int .i64 m, .slice A9 ((keepL k l).length + 1) c9] 26, .blk W6.heap.size #[.slice (some ⟨W5.heap.size, 0, none⟩) os.length os.length] 48, .blk (w.heap.size + 1) #[.int .i64 0, .slice none 0 0] 26, .blk w.heap.size #[.int .i64 m, .slice (some ⟨pb, po, none⟩) os.length c] 26]) (.slice (some ⟨W5.heap.size, 0, none⟩) os.length os.length) (ranks l os.length)) := Lib.hid (HPl.out.move (by decide) K')
                  replace Hr : Hid (RdSl obE ((wg.setCell ⟨wl8.heap.size, 1, none⟩ (.slice A9 ((keepL k l).length + 1) c9))) (Fr 0 [.row w.heap.size 41 2 (.slice A9 ((keepL k l).length + 1) c9) ((keepL k l).length + 1) (cat (css ++ [[Value.slice Af ob.fields.length cf, Value.bool ob.dead]])), .blk wl8.heap.size #[.int .i64 m, .slice A9 ((keepL k l).length + 1) c9] 26, .blk W6.heap.size #[.slice (some ⟨W5.heap.size, 0, none⟩) os.length os.length] 48, .blk (w.heap.size + 1) #[.int .i64 0, .slice none 0 0] 26, .blk w.heap.size #[.int .i64 m, .slice (some ⟨pb, po, none⟩) os.length c] 26]) (.slice (some ⟨pb, po, none⟩) os.length c) os) := Lib.hid (Hr.out.move (by decide) K')
                  replace HO : Hid (Held obE ((wg.setCell ⟨wl8.heap.size, 1, none⟩ (.slice A9 ((keepL k l).length + 1) c9))) (Fr w.heap.size [.row w.heap.size 41 2 (.slice A9 ((keepL k l).length + 1) c9) ((keepL k l).length + 1) (cat (css ++ [[Value.slice Af ob.fields.length cf, Value.bool ob.dead]])), .blk wl8.heap.size #[.int .i64 m, .slice A9 ((keepL k l).length + 1) c9] 26, .blk W6.heap.size #[.slice (some ⟨W5.heap.size, 0, none⟩) os.length os.length] 48, .blk (w.heap.size + 1) #[.int .i64 0, .slice none 0 0] 26, .blk w.heap.size #[.int .i64 m, .slice (some ⟨pb, po, none⟩) os.length c] 26]) (css ++ [[Value.slice Af ob.fields.length cf, Value.bool ob.dead]]) ((keepL (k + 1) l).map (keptO os K))) := Lib.hid (HO.out.move K')
                  clear T' K'
                  replace hz : w.heap.size + 1 + 1 ≤ ((wg.setCell ⟨wl8.heap.size, 1, none⟩ (.slice A9 ((keepL k l).length + 1) c9))).heap.size := by simpa using hz
                  generalize wg.setCell ⟨wl8.heap.size, 1, none⟩ (.slice A9 ((keepL k l).length + 1) c9) = wh at *
                  refine ⟨trivial, ?_⟩
                  refine plan_end (NoPanic.normal ?_)
                  rw [← HKN.out] at HT Hq HPl Hr HO
                  replace Hq : Hid (RdSl vE wh (Fr 0 [.row w.heap.size 41 2 (.slice A9 (keepL (k + 1) l).length c9) ((keepL (k + 1) l).length) (cat (css ++ [[Value.slice Af ob.fields.length cf, Value.bool ob.dead]])), .blk wl8.heap.size #[.int .i64 m, .slice A9 (keepL (k + 1) l).length c9] 26, .blk W6.heap.size #[.slice (some ⟨W5.heap.size, 0, none⟩) os.length os.length] 48, .blk (w.heap.size + 1) #[.int .i64 0, .slice none 0 0] 26, .blk w.heap.size #[.int .i64 m, .slice (some ⟨pb, po, none⟩) os.length c] 26]) (.slice R rs.length d) rs) := Hq
                  replace HPl : Hid (RdSl iE wh (Fr 0 [.row w.heap.size 41 2 (.slice A9 (keepL (k + 1) l).length c9) ((keepL (k + 1) l).length) (cat (css ++ [[Value.slice Af ob.fields.length cf, Value.bool ob.dead]])), .blk wl8.heap.size #[.int .i64 m, .slice A9 (keepL (k + 1) l).length c9] 26, .blk W6.heap.size #[.slice (some ⟨W5.heap.size, 0, none⟩) os.length os.length] 48, .blk (w.heap.size + 1) #[.int .i64 0, .slice none 0 0] 26, .blk w.heap.size #[.int .i64 m, .slice (some ⟨pb, po, none⟩) os.length c] 26]) (.slice (some ⟨W5.heap.size, 0, none⟩) os.length os.length) (ranks l os.length)) := HPl
                  replace Hr : Hid (RdSl obE wh (Fr 0 [.row w.heap.size 41 2 (.slice A9 (keepL (k + 1) l).length c9) ((keepL (k + 1) l).length) (cat (css ++ [[Value.slice Af ob.fields.length cf, Value.bool ob.dead]])), .blk wl8.heap.size #[.int .i64 m, .slice A9 (keepL (k + 1) l).length c9] 26, .blk W6.heap.size #[.slice (some ⟨W5.heap.size, 0, none⟩) os.length os.length] 48, .blk (w.heap.size + 1) #[.int .i64 0, .slice none 0 0] 26, .blk w.heap.size #[.int .i64 m, .slice (some ⟨pb, po, none⟩) os.length c] 26]) (.slice (some ⟨pb, po, none⟩) os.length c) os) := Hr
                  replace HO : Hid (Held obE wh (Fr w.heap.size [.row w.heap.size 41 2 (.slice A9 (keepL (k + 1) l).length c9) ((keepL (k + 1) l).length) (cat (css ++ [[Value.slice Af ob.fields.length cf, Value.bool ob.dead]])), .blk wl8.heap.size #[.int .i64 m, .slice A9 (keepL (k + 1) l).length c9] 26, .blk W6.heap.size #[.slice (some ⟨W5.heap.size, 0, none⟩) os.length os.length] 48, .blk (w.heap.size + 1) #[.int .i64 0, .slice none 0 0] 26, .blk w.heap.size #[.int .i64 m, .slice (some ⟨pb, po, none⟩) os.length c] 26]) (css ++ [[Value.slice Af ob.fields.length cf, Value.bool ob.dead]]) ((keepL (k + 1) l).map (keptO os K))) := HO
                  replace HT : Hid (St w.heap.size w wh [.row w.heap.size 41 2 (.slice A9 (keepL (k + 1) l).length c9) ((keepL (k + 1) l).length) (cat (css ++ [[Value.slice Af ob.fields.length cf, Value.bool ob.dead]])), .blk wl8.heap.size #[.int .i64 m, .slice A9 (keepL (k + 1) l).length c9] 26, .blk W6.heap.size #[.slice (some ⟨W5.heap.size, 0, none⟩) os.length os.length] 48, .blk (w.heap.size + 1) #[.int .i64 0, .slice none 0 0] 26, .blk w.heap.size #[.int .i64 m, .slice (some ⟨pb, po, none⟩) os.length c] 26]) := HT
                  go_wp2_with fail
                  go_roundw
                  case rel =>
                    refine ⟨k + 1, .slice A9 (keepL (k + 1) l).length c9, css ++ [[Value.slice Af ob.fields.length cf, Value.bool ob.dead]], ?_, ?_, ?_, ?_, ?_, ?_, ?_, ?_⟩
                    · go_num
                    · omega
                    · with_reducible exact HT.out
                    · with_reducible exact Hr.out
                    · with_reducible exact Hq.out
                    · with_reducible exact HPl.out
                    · with_reducible exact HO.out
                    · exact hz
                  case measure => simp [intOf]; omega
              · have hrk : rankL 0 l k = -1 := if_neg hmem
                rw [hrk] at z0
                have hkk : keepL (k + 1) l = keepL k l := by rw [keepL_succ, if_neg hmem, List.append_nil]
                have HKK := Lib.hid hkk
                clear hrk hmem hkk
                go_wp2_with fail
                clear z0 y1 y2 Hfd
                clear r_out q_out r_place q_place r_h q_h z_out z_place z_h
                rw [← HKK.out] at HT Hq HPl HO Hr
                replace Hq : Hid (RdSl vE wl12 (Fr 0 [.row w.heap.size 41 2 (.slice Av (keepL (k + 1) l).length cv) ((keepL (k + 1) l).length) (cat css), .blk wl8.heap.size #[.int .i64 m, .slice Av (keepL (k + 1) l).length cv] 26, .blk W6.heap.size #[.slice (some ⟨W5.heap.size, 0, none⟩) os.length os.length] 48, .blk (w.heap.size + 1) #[.int .i64 0, .slice none 0 0] 26, .blk w.heap.size #[.int .i64 m, .slice (some ⟨pb, po, none⟩) os.length c] 26]) (.slice R rs.length d) rs) := Hq
                replace HPl : Hid (RdSl iE wl12 (Fr 0 [.row w.heap.size 41 2 (.slice Av (keepL (k + 1) l).length cv) ((keepL (k + 1) l).length) (cat css), .blk wl8.heap.size #[.int .i64 m, .slice Av (keepL (k + 1) l).length cv] 26, .blk W6.heap.size #[.slice (some ⟨W5.heap.size, 0, none⟩) os.length os.length] 48, .blk (w.heap.size + 1) #[.int .i64 0, .slice none 0 0] 26, .blk w.heap.size #[.int .i64 m, .slice (some ⟨pb, po, none⟩) os.length c] 26]) (.slice (some ⟨W5.heap.size, 0, none⟩) os.length os.length) (ranks l os.length)) := HPl
                replace Hr : Hid (RdSl obE wl12 (Fr 0 [.row w.heap.size 41 2 (.slice Av (keepL (k + 1) l).length cv) ((keepL (k + 1) l).length) (cat css), .blk wl8.heap.size #[.int .i64 m, .slice Av (keepL (k + 1) l).length cv] 26, .blk W6.heap.size #[.slice (some ⟨W5.heap.size, 0, none⟩) os.length os.length] 48, .blk (w.heap.size + 1) #[.int .i64 0, .slice none 0 0] 26, .blk w.heap.size #[.int .i64 m, .slice (some ⟨pb, po, none⟩) os.length c] 26]) (.slice (some ⟨pb, po, none⟩) os.length c) os) := Hr
                replace HO : Hid (Held obE wl12 (Fr w.heap.size [.row w.heap.size 41 2 (.slice Av (keepL (k + 1) l).length cv) ((keepL (k + 1) l).length) (cat css), .blk wl8.heap.size #[.int .i64 m, .slice Av (keepL (k + 1) l).length cv] 26, .blk W6.heap.size #[.slice (some ⟨W5.heap.size, 0, none⟩) os.length os.length] 48, .blk (w.heap.size + 1) #[.int .i64 0, .slice none 0 0] 26, .blk w.heap.size #[.int .i64 m, .slice (some ⟨pb, po, none⟩) os.length c] 26]) css ((keepL (k + 1) l).map (keptO os K))) := HO
                go_roundw
                case rel =>
                  refine ⟨k + 1, .slice Av (keepL (k + 1) l).length cv, css, ?_, ?_, ?_, ?_, ?_, ?_, ?_, ?_⟩
                  · go_num
                  · omega
                  · with_reducible exact HT.out
                  · with_reducible exact Hr.out
                  · with_reducible exact Hq.out
                  · with_reducible exact HPl.out
                  · with_reducible exact HO.out
                  · exact hz
                case measure => simp [intOf]; omega
            · have hkk : k = os.length := by omega
              subst hkk
              rw [HK.out] at HT Hr Hq HPl HO
              clear hk hlt
              replace Hr : Hid (RdSl obE wl12 (Fr 0 [.row w.heap.size 41 2 (.slice Av K.length cv) K.length (cat css), .blk wl8.heap.size #[.int .i64 m, .slice Av K.length cv] 26, .blk W6.heap.size #[.slice (some ⟨W5.heap.size, 0, none⟩) os.length os.length] 48, .blk (w.heap.size + 1) #[.int .i64 0, .slice none 0 0] 26, .blk w.heap.size #[.int .i64 m, .slice A os.length c] 26]) (.slice A os.length c) os) := Hr
              replace Hq : Hid (RdSl vE wl12 (Fr 0 [.row w.heap.size 41 2 (.slice Av K.length cv) K.length (cat css), .blk wl8.heap.size #[.int .i64 m, .slice Av K.length cv] 26, .blk W6.heap.size #[.slice (some ⟨W5.heap.size, 0, none⟩) os.length os.length] 48, .blk (w.heap.size + 1) #[.int .i64 0, .slice none 0 0] 26, .blk w.heap.size #[.int .i64 m, .slice A os.length c] 26]) (.slice R rs.length d) rs) := Hq
              replace HPl : Hid (RdSl iE wl12 (Fr 0 [.row w.heap.size 41 2 (.slice Av K.length cv) K.length (cat css), .blk wl8.heap.size #[.int .i64 m, .slice Av K.length cv] 26, .blk W6.heap.size #[.slice (some ⟨W5.heap.size, 0, none⟩) os.length os.length] 48, .blk (w.heap.size + 1) #[.int .i64 0, .slice none 0 0] 26, .blk w.heap.size #[.int .i64 m, .slice A os.length c] 26]) (.slice (some ⟨W5.heap.size, 0, none⟩) os.length os.length) (ranks l os.length)) := HPl
              replace HO : Hid (Held obE wl12 (Fr w.heap.size [.row w.heap.size 41 2 (.slice Av K.length cv) K.length (cat css), .blk wl8.heap.size #[.int .i64 m, .slice Av K.length cv] 26, .blk W6.heap.size #[.slice (some ⟨W5.heap.size, 0, none⟩) os.length os.length] 48, .blk (w.heap.size + 1) #[.int .i64 0, .slice none 0 0] 26, .blk w.heap.size #[.int .i64 m, .slice A os.length c] 26]) css (K.map (keptO os K))) := HO
              replace HT : Hid (St w.heap.size w wl12 [.row w.heap.size 41 2 (.slice Av K.length cv) K.length (cat css), .blk wl8.heap.size #[.int .i64 m, .slice Av K.length cv] 26, .blk W6.heap.size #[.slice (some ⟨W5.heap.size, 0, none⟩) os.length os.length] 48, .blk (w.heap.size + 1) #[.int .i64 0, .slice none 0 0] 26, .blk w.heap.size #[.int .i64 m, .slice A os.length c] 26]) := HT
              have Hgr : Hid (∀ x ∈ rs, x.k = 2 → 0 ≤ x.n ∧ x.n < (ranks l os.length).length ∧ (ranks l os.length)[x.n.toNat]? = some (plM 0 K x.n)) := Lib.hid (fun x hx hk2 => by
                have hxl : x.n ∈ l := Hroot.out x hx hk2
                rw [← HK.out]
                exact ranks_ref hxl (Hin.out _ hxl))
              clear r_out q_out r_place q_place r_h q_h z_out z_place z_h
              obtain ⟨r_out, q_out, -, -, r_rH, q_rH, r_h, q_h, -⟩ := HT.out.rules
              have z_out : wl8.heap.size < wl12.heap.size := (HT.out.in_ 1 rfl rfl).2
              have z_rH : w.heap.size + 1 < wl12.heap.size := (HT.out.in_ 3 rfl rfl).2
              have z_h : w.heap.size < wl12.heap.size := (HT.out.in_ 4 rfl rfl).2
              go_wp2_with fail
              refine wp_region_plan [.still [0, 1, 2], .loud 3 [0], .loud 4 [], .still [5, 6]] (by kernel_rfl) (by kernel_rfl) ?_
              refine plan_still ?_
              simp only [pick, List.getElem?_toArray, List.getElem?_cons_succ, List.getElem?_cons_zero]
              repeat still_step
              refine wpStill_nil ?_
              refine plan_loud ?_
              simp only [pick, List.getElem?_toArray, List.getElem?_cons_succ, List.getElem?_cons_zero]
              go_wp2_with fail
              obtain ⟨T', K'⟩ := HT.out.drew'
              replace T' : St w.heap.size w wl12.drew [.row w.heap.size 41 2 (.slice Av K.length cv) K.length (cat css), .blk wl8.heap.size #[.int .i64 m, .slice Av K.length cv] 26, .blk W6.heap.size #[.slice (some ⟨W5.heap.size, 0, none⟩) os.length os.length] 48, .blk (w.heap.size + 1) #[.int .i64 0, .slice none 0 0] 26, .blk w.heap.size #[.int .i64 m, .slice A os.length c] 26] := T'
              replace K' : Keeps wl12 [.row w.heap.size 41 2 (.slice Av K.length cv) K.length (cat css), .blk wl8.heap.size #[.int .i64 m, .slice Av K.length cv] 26, .blk W6.heap.size #[.slice (some ⟨W5.heap.size, 0, none⟩) os.length os.length] 48, .blk (w.heap.size + 1) #[.int .i64 0, .slice none 0 0] 26, .blk w.heap.size #[.int .i64 m, .slice A os.length c] 26] wl12.drew [.row w.heap.size 41 2 (.slice Av K.length cv) K.length (cat css), .blk wl8.heap.size #[.int .i64 m, .slice Av K.length cv] 26, .blk W6.heap.size #[.slice (some ⟨W5.heap.size, 0, none⟩) os.length os.length] 48, .blk (w.heap.size + 1) #[.int .i64 0, .slice none 0 0] 26, .blk w.heap.size #[.int .i64 m, .slice A os.length c] 26] := K'
              replace HT := Lib.hid T'
              replace Hr : Hid (RdSl obE wl12.drew (Fr 0 [.row w.heap.size 41 2 (.slice Av K.length cv) K.length (cat css), .blk wl8.heap.size #[.int .i64 m, .slice Av K.length cv] 26, .blk W6.heap.size #[.slice (some ⟨W5.heap.size, 0, none⟩) os.length os.length] 48, .blk (w.heap.size + 1) #[.int .i64 0, .slice none 0 0] 26, .blk w.heap.size #[.int .i64 m, .slice A os.length c] 26]) (.slice A os.length c) os) := Lib.hid (Hr.out.move (by decide) K')
              replace Hq : Hid (RdSl vE wl12.drew (Fr 0 [.row w.heap.size 41 2 (.slice Av K.length cv) K.length (cat css), .blk wl8.heap.size #[.int .i64 m, .slice Av K.length cv] 26, .blk W6.heap.size #[.slice (some ⟨W5.heap.size, 0, none⟩) os.length os.length] 48, .blk (w.heap.size + 1) #[.int .i64 0, .slice none 0 0] 26, .blk w.heap.size #[.int .i64 m, .slice A os.length c] 26]) (.slice R rs.length d) rs) := Lib.hid (Hq.out.move (by decide) K')
              replace HPl : Hid (RdSl iE wl12.drew (Fr 0 [.row w.heap.size 41 2 (.slice Av K.length cv) K.length (cat css), .blk wl8.heap.size #[.int .i64 m, .slice Av K.length cv] 26, .blk W6.heap.size #[.slice (some ⟨W5.heap.size, 0, none⟩) os.length os.length] 48, .blk (w.heap.size + 1) #[.int .i64 0, .slice none 0 0] 26, .blk w.heap.size #[.int .i64 m, .slice A os.length c] 26]) (.slice (some ⟨W5.heap.size, 0, none⟩) os.length os.length) (ranks l os.length)) := Lib.hid (HPl.out.move (by decide) K')
              replace HO : Hid (Held obE wl12.drew (Fr w.heap.size [.row w.heap.size 41 2 (.slice Av K.length cv) K.length (cat css), .blk wl8.heap.size #[.int .i64 m, .slice Av K.length cv] 26, .blk W6.heap.size #[.slice (some ⟨W5.heap.size, 0, none⟩) os.length os.length] 48, .blk (w.heap.size + 1) #[.int .i64 0, .slice none 0 0] 26, .blk w.heap.size #[.int .i64 m, .slice A os.length c] 26]) css (K.map (keptO os K))) := Lib.hid (HO.out.move K')
              clear T' K'
              replace hz : w.heap.size + 1 + 1 ≤ wl12.drew.heap.size := hz
              refine (collFix_any (plM 0 K) _ _ _ _ _ _ _ _ (ranks l os.length) _ Hq.out (by rw [ranks_len]; exact cell_of_row _ _ 0 _ _ _ (HT.out.heap 2 rfl)) (by rw [ranks_len]; exact HPl.out) Hgr.out).mono ?_
              rintro en W14 ⟨vf, rfl, hown, hb⟩
              obtain ⟨Af, cf, rfl⟩ := own_formV hown
              have hrd := hown.rd.keep (S' := fun b => (wl12.drew).heap.size ≤ b) (by decide) (fun b _ h => ⟨h.elim (fun h => h.elim) id, rfl⟩)
              rw [List.length_map] at hrd
              rw [List.length_map]
              clear hown
              clear r_out q_out r_rH q_rH r_h q_h z_out z_rH z_h
              have Hfresh := Lib.hid (HT.out)
              have hzo : w.heap.size ≤ wl12.drew.heap.size := by omega
              obtain ⟨T', K'⟩ := HT.out.call hb
              replace T' : St w.heap.size w W14 [.row w.heap.size 41 2 (.slice Av K.length cv) K.length (cat css), .blk wl8.heap.size #[.int .i64 m, .slice Av K.length cv] 26, .blk W6.heap.size #[.slice (some ⟨W5.heap.size, 0, none⟩) os.length os.length] 48, .blk (w.heap.size + 1) #[.int .i64 0, .slice none 0 0] 26, .blk w.heap.size #[.int .i64 m, .slice A os.length c] 26] := T'
              replace K' : Keeps wl12.drew [.row w.heap.size 41 2 (.slice Av K.length cv) K.length (cat css), .blk wl8.heap.size #[.int .i64 m, .slice Av K.length cv] 26, .blk W6.heap.size #[.slice (some ⟨W5.heap.size, 0, none⟩) os.length os.length] 48, .blk (w.heap.size + 1) #[.int .i64 0, .slice none 0 0] 26, .blk w.heap.size #[.int .i64 m, .slice A os.length c] 26] W14 [.row w.heap.size 41 2 (.slice Av K.length cv) K.length (cat css), .blk wl8.heap.size #[.int .i64 m, .slice Av K.length cv] 26, .blk W6.heap.size #[.slice (some ⟨W5.heap.size, 0, none⟩) os.length os.length] 48, .blk (w.heap.size + 1) #[.int .i64 0, .slice none 0 0] 26, .blk w.heap.size #[.int .i64 m, .slice A os.length c] 26] := K'
              replace HT := Lib.hid T'
              replace Hr : Hid (RdSl obE W14 (Fr 0 [.row w.heap.size 41 2 (.slice Av K.length cv) K.length (cat css), .blk wl8.heap.size #[.int .i64 m, .slice Av K.length cv] 26, .blk W6.heap.size #[.slice (some ⟨W5.heap.size, 0, none⟩) os.length os.length] 48, .blk (w.heap.size + 1) #[.int .i64 0, .slice none 0 0] 26, .blk w.heap.size #[.int .i64 m, .slice A os.length c] 26]) (.slice A os.length c) os) := Lib.hid (Hr.out.move (by decide) K')
              replace Hq : Hid (RdSl vE W14 (Fr 0 [.row w.heap.size 41 2 (.slice Av K.length cv) K.length (cat css), .blk wl8.heap.size #[.int .i64 m, .slice Av K.length cv] 26, .blk W6.heap.size #[.slice (some ⟨W5.heap.size, 0, none⟩) os.length os.length] 48, .blk (w.heap.size + 1) #[.int .i64 0, .slice none 0 0] 26, .blk w.heap.size #[.int .i64 m, .slice A os.length c] 26]) (.slice R rs.length d) rs) := Lib.hid (Hq.out.move (by decide) K')
              replace HPl : Hid (RdSl iE W14 (Fr 0 [.row w.heap.size 41 2 (.slice Av K.length cv) K.length (cat css), .blk wl8.heap.size #[.int .i64 m, .slice Av K.length cv] 26, .blk W6.heap.size #[.slice (some ⟨W5.heap.size, 0, none⟩) os.length os.length] 48, .blk (w.heap.size + 1) #[.int .i64 0, .slice none 0 0] 26, .blk w.heap.size #[.int .i64 m, .slice A os.length c] 26]) (.slice (some ⟨W5.heap.size, 0, none⟩) os.length os.length) (ranks l os.length)) := Lib.hid (HPl.out.move (by decide) K')
              replace HO : Hid (Held obE W14 (Fr w.heap.size [.row w.heap.size 41 2 (.slice Av K.length cv) K.length (cat css), .blk wl8.heap.size #[.int .i64 m, .slice Av K.length cv] 26, .blk W6.heap.size #[.slice (some ⟨W5.heap.size, 0, none⟩) os.length os.length] 48, .blk (w.heap.size + 1) #[.int .i64 0, .slice none 0 0] 26, .blk w.heap.size #[.int .i64 m, .slice A os.length c] 26]) css (K.map (keptO os K))) := Lib.hid (HO.out.move K')
              clear T' K'
              replace hz : w.heap.size + 1 + 1 ≤ W14.heap.size := Nat.le_trans hz hb.size
              clear hb
              have HF : Hid (RdSl vE W14 (Fr w.heap.size [.row w.heap.size 41 2 (.slice Av K.length cv) K.length (cat css), .blk wl8.heap.size #[.int .i64 m, .slice Av K.length cv] 26, .blk W6.heap.size #[.slice (some ⟨W5.heap.size, 0, none⟩) os.length os.length] 48, .blk (w.heap.size + 1) #[.int .i64 0, .slice none 0 0] 26, .blk w.heap.size #[.int .i64 m, .slice A os.length c] 26]) (.slice Af rs.length cf) (rs.map (newV (plM 0 K)))) := Lib.hid (hrd.fresh (by first | decide | (show 0 < 1; omega)) Hfresh.out hzo)
              clear hrd
              clear Hfresh hzo
              obtain ⟨r_out, q_out, -, -, r_rH, q_rH, r_h, q_h, -⟩ := HT.out.rules
              have z_out : wl8.heap.size < W14.heap.size := (HT.out.in_ 1 rfl rfl).2
              have z_rH : w.heap.size + 1 < W14.heap.size := (HT.out.in_ 3 rfl rfl).2
              have z_h : w.heap.size < W14.heap.size := (HT.out.in_ 4 rfl rfl).2
              go_wp2_with fail
              refine ⟨?_, ?_⟩
              · simp only [Again, pick, List.getElem?_toArray, List.getElem?_cons_succ, List.getElem?_cons_zero]
                refine ⟨?_, trivial⟩
                all_goals (still_step; exact wpStill_nil rfl)
              refine plan_loud ?_
              simp only [pick, List.getElem?_toArray, List.getElem?_cons_succ, List.getElem?_cons_zero]
              go_wp2_with fail
              clear r_out q_out r_rH q_rH r_h q_h z_out z_rH z_h
              obtain ⟨T', K'⟩ := HT.out.put2 3 (.int .i64 m) (.slice Av K.length cv) rfl rfl
              replace T' : St w.heap.size w (((W14.setCell ⟨w.heap.size + 1, 0, none⟩ (.int .i64 m)).setCell ⟨w.heap.size + 1, 1, none⟩ (.slice Av K.length cv))) [.row w.heap.size 41 2 (.slice Av K.length cv) K.length (cat css), .blk wl8.heap.size #[.int .i64 m, .slice Av K.length cv] 26, .blk W6.heap.size #[.slice (some ⟨W5.heap.size, 0, none⟩) os.length os.length] 48, .blk (w.heap.size + 1) #[.int .i64 m, .slice Av K.length cv] 26, .blk w.heap.size #[.int .i64 m, .slice A os.length c] 26] := T'
              replace K' : Keeps W14 [.row w.heap.size 41 2 (.slice Av K.length cv) K.length (cat css), .blk wl8.heap.size #[.int .i64 m, .slice Av K.length cv] 26, .blk W6.heap.size #[.slice (some ⟨W5.heap.size, 0, none⟩) os.length os.length] 48, .blk (w.heap.size + 1) #[.int .i64 0, .slice none 0 0] 26, .blk w.heap.size #[.int .i64 m, .slice A os.length c] 26] (((W14.setCell ⟨w.heap.size + 1, 0, none⟩ (.int .i64 m)).setCell ⟨w.heap.size + 1, 1, none⟩ (.slice Av K.length cv))) [.row w.heap.size 41 2 (.slice Av K.length cv) K.length (cat css), .blk wl8.heap.size #[.int .i64 m, .slice Av K.length cv] 26, .blk W6.heap.size #[.slice (some ⟨W5.heap.size, 0, none⟩) os.length os.length] 48, .blk (w.heap.size + 1) #[.int .i64 m, .slice Av K.length cv] 26, .blk w.heap.size #[.int .i64 m, .slice A os.length c] 26] := K'
              replace HT := Lib.hid T'
              replace Hr : Hid (RdSl obE (((W14.setCell ⟨w.heap.size + 1, 0, none⟩ (.int .i64 m)).setCell ⟨w.heap.size + 1, 1, none⟩ (.slice Av K.length cv))) (Fr 0 [.row w.heap.size 41 2 (.slice Av K.length cv) K.length (cat css), .blk wl8.heap.size #[.int .i64 m, .slice Av K.length cv] 26, .blk W6.heap.size #[.slice (some ⟨W5.heap.size, 0, none⟩) os.length os.length] 48, .blk (w.heap.size + 1) #[.int .i64 m, .slice Av K.length cv] 26, .blk w.heap.size #[.int .i64 m, .slice A os.length c] 26]) (.slice A os.length c) os) := Lib.hid (Hr.out.move (by decide) K')
              replace Hq : Hid (RdSl vE (((W14.setCell ⟨w.heap.size + 1, 0, none⟩ (.int .i64 m)).setCell ⟨w.heap.size + 1, 1, none⟩ (.slice Av K.length cv))) (Fr 0 [.row w.heap.size 41 2 (.slice Av K.length cv) K.length (cat css), .blk wl8.heap.size #[.int .i64 m, .slice Av K.length cv] 26, .blk W6.heap.size #[.slice (some ⟨W5.heap.size, 0, none⟩) os.length os.length] 48, .blk (w.heap.size + 1) #[.int .i64 m, .slice Av K.length cv] 26, .blk w.heap.size #[.int .i64 m, .slice A os.length c] 26]) (.slice R rs.length d) rs) := Lib.hid (Hq.out.move (by decide) K')
              replace HPl : Hid (RdSl iE (((W14.setCell ⟨w.heap.size + 1, 0, none⟩ (.int .i64 m)).setCell ⟨w.heap.size + 1, 1, none⟩ (.slice Av K.length cv))) (Fr 0 [.row w.heap.size 41 2 (.slice Av K.length cv) K.length (cat css), .blk wl8.heap.size #[.int .i64 m, .slice Av K.length cv] 26, .blk W6.heap.size #[.slice (some ⟨W5.heap.size, 0, none⟩) os.length os.length] 48, .blk (w.heap.size + 1) #[.int .i64 m, .slice Av K.length cv] 26, .blk w.heap.size #[.int .i64 m, .slice A os.length c] 26]) (.slice (some ⟨W5.heap.size, 0, none⟩) os.length os.length) (ranks l os.length)) := Lib.hid (HPl.out.move (by decide) K')
              replace HO : Hid (Held obE (((W14.setCell ⟨w.heap.size + 1, 0, none⟩ (.int .i64 m)).setCell ⟨w.heap.size + 1, 1, none⟩ (.slice Av K.length cv))) (Fr w.heap.size [.row w.heap.size 41 2 (.slice Av K.length cv) K.length (cat css), .blk wl8.heap.size #[.int .i64 m, .slice Av K.length cv] 26, .blk W6.heap.size #[.slice (some ⟨W5.heap.size, 0, none⟩) os.length os.length] 48, .blk (w.heap.size + 1) #[.int .i64 m, .slice Av K.length cv] 26, .blk w.heap.size #[.int .i64 m, .slice A os.length c] 26]) css (K.map (keptO os K))) := Lib.hid (HO.out.move K')
              replace HF : Hid (RdSl vE (((W14.setCell ⟨w.heap.size + 1, 0, none⟩ (.int .i64 m)).setCell ⟨w.heap.size + 1, 1, none⟩ (.slice Av K.length cv))) (Fr w.heap.size [.row w.heap.size 41 2 (.slice Av K.length cv) K.length (cat css), .blk wl8.heap.size #[.int .i64 m, .slice Av K.length cv] 26, .blk W6.heap.size #[.slice (some ⟨W5.heap.size, 0, none⟩) os.length os.length] 48, .blk (w.heap.size + 1) #[.int .i64 m, .slice Av K.length cv] 26, .blk w.heap.size #[.int .i64 m, .slice A os.length c] 26]) (.slice Af rs.length cf) (rs.map (newV (plM 0 K)))) := Lib.hid (HF.out.move (by decide) K')
              clear T' K'
              replace hz : w.heap.size + 1 + 1 ≤ (((W14.setCell ⟨w.heap.size + 1, 0, none⟩ (.int .i64 m)).setCell ⟨w.heap.size + 1, 1, none⟩ (.slice Av K.length cv))).heap.size := by simpa using hz
              generalize (W14.setCell ⟨w.heap.size + 1, 0, none⟩ (.int .i64 m)).setCell ⟨w.heap.size + 1, 1, none⟩ (.slice Av K.length cv) = wz at *
              obtain ⟨r_out, q_out, -, -, r_rH, q_rH, r_h, q_h, -⟩ := HT.out.rules
              have z_out : wl8.heap.size < wz.heap.size := (HT.out.in_ 1 rfl rfl).2
              have z_rH : w.heap.size + 1 < wz.heap.size := (HT.out.in_ 3 rfl rfl).2
              have z_h : w.heap.size < wz.heap.size := (HT.out.in_ 4 rfl rfl).2
              refine ⟨trivial, ?_⟩
              refine plan_still ?_
              simp only [pick, List.getElem?_toArray, List.getElem?_cons_succ, List.getElem?_cons_zero]
              repeat still_step
              refine wpStill_nil ?_
              refine plan_end (NoPanic.normal ?_)
              go_wp2_with fail
              have hA := HT.out.rdRow (E := obE) (n := w.heap.size) 0 rfl rfl (by simp) HO.out (by show (K.map (keptO os K)).length * 32 ≤ _; rw [List.length_map]; omega) (Nat.le_refl _) (by decide)
              refine bodyPost_ret (v := .tuple #[.agg #[.int .i64 m, .slice Av K.length cv], .slice Af rs.length cf, .int .i64 0]) (by simp [results, Try.results26, go_sem, r_rH]) rfl ?_
              rw [HP.out]
              exact ⟨_, _, _, rfl, RdH.of hA (by simp), HF.out.from_ (by decide), HT.out.below⟩
  · have hf : hpB ⟨m, os⟩ rs = false := by simpa using hp
    have Hf := Lib.hid hf
    clear hf hp
    go_enter Try.func26, Try.ntmps26
    go_upto_region 1 with fail
    generalize ((w.alloc (.cells #[.int .i64 m, .slice A os.length c] 26)).alloc (.cells #[.int .i64 0, .slice none 0 0] 26)) = W1 at *
    obtain ⟨r_rH, q_rH, r_h, q_h, -⟩ := HT.out.rules
    have z_rH : w.heap.size + 1 < W1.heap.size := (HT.out.in_ 0 rfl rfl).2
    have z_h : w.heap.size < W1.heap.size := (HT.out.in_ 1 rfl rfl).2
    go_wp2_with fail
    refine (may_is m _ _ A R c d os rs _ _ Hf.out Hr.out Hq.out).mono ?_
    rintro en W2 ⟨rfl, hb⟩
    clear r_rH q_rH r_h q_h z_rH z_h
    obtain ⟨T', K'⟩ := HT.out.call hb
    replace T' : St w.heap.size w W2 [.blk (w.heap.size + 1) #[.int .i64 0, .slice none 0 0] 26, .blk w.heap.size #[.int .i64 m, .slice A os.length c] 26] := T'
    replace K' : Keeps W1 [.blk (w.heap.size + 1) #[.int .i64 0, .slice none 0 0] 26, .blk w.heap.size #[.int .i64 m, .slice A os.length c] 26] W2 [.blk (w.heap.size + 1) #[.int .i64 0, .slice none 0 0] 26, .blk w.heap.size #[.int .i64 m, .slice A os.length c] 26] := K'
    replace HT := Lib.hid T'
    replace Hr : Hid (RdSl obE W2 (Fr 0 [.blk (w.heap.size + 1) #[.int .i64 0, .slice none 0 0] 26, .blk w.heap.size #[.int .i64 m, .slice A os.length c] 26]) (.slice A os.length c) os) := Lib.hid (Hr.out.move (by decide) K')
    replace Hq : Hid (RdSl vE W2 (Fr 0 [.blk (w.heap.size + 1) #[.int .i64 0, .slice none 0 0] 26, .blk w.heap.size #[.int .i64 m, .slice A os.length c] 26]) (.slice R rs.length d) rs) := Lib.hid (Hq.out.move (by decide) K')
    clear T' K'
    replace hz : w.heap.size + 1 + 1 ≤ W2.heap.size := Nat.le_trans hz hb.size
    clear hb
    obtain ⟨r_rH, q_rH, r_h, q_h, -⟩ := HT.out.rules
    have z_rH : w.heap.size + 1 < W2.heap.size := (HT.out.in_ 0 rfl rfl).2
    have z_h : w.heap.size < W2.heap.size := (HT.out.in_ 1 rfl rfl).2
    go_wp2_with fail
    clear r_rH q_rH r_h q_h z_rH z_h
    obtain ⟨T', K'⟩ := HT.out.put2 0 (.int .i64 0) (.slice none 0 0) rfl rfl
    replace T' : St w.heap.size w (((W2.setCell ⟨w.heap.size + 1, 0, none⟩ (.int .i64 0)).setCell ⟨w.heap.size + 1, 1, none⟩ (.slice none 0 0))) [.blk (w.heap.size + 1) #[.int .i64 0, .slice none 0 0] 26, .blk w.heap.size #[.int .i64 m, .slice A os.length c] 26] := T'
    replace K' : Keeps W2 [.blk (w.heap.size + 1) #[.int .i64 0, .slice none 0 0] 26, .blk w.heap.size #[.int .i64 m, .slice A os.length c] 26] (((W2.setCell ⟨w.heap.size + 1, 0, none⟩ (.int .i64 0)).setCell ⟨w.heap.size + 1, 1, none⟩ (.slice none 0 0))) [.blk (w.heap.size + 1) #[.int .i64 0, .slice none 0 0] 26, .blk w.heap.size #[.int .i64 m, .slice A os.length c] 26] := K'
    replace HT := Lib.hid T'
    replace Hr : Hid (RdSl obE (((W2.setCell ⟨w.heap.size + 1, 0, none⟩ (.int .i64 0)).setCell ⟨w.heap.size + 1, 1, none⟩ (.slice none 0 0))) (Fr 0 [.blk (w.heap.size + 1) #[.int .i64 0, .slice none 0 0] 26, .blk w.heap.size #[.int .i64 m, .slice A os.length c] 26]) (.slice A os.length c) os) := Lib.hid (Hr.out.move (by decide) K')
    replace Hq : Hid (RdSl vE (((W2.setCell ⟨w.heap.size + 1, 0, none⟩ (.int .i64 0)).setCell ⟨w.heap.size + 1, 1, none⟩ (.slice none 0 0))) (Fr 0 [.blk (w.heap.size + 1) #[.int .i64 0, .slice none 0 0] 26, .blk w.heap.size #[.int .i64 m, .slice A os.length c] 26]) (.slice R rs.length d) rs) := Lib.hid (Hq.out.move (by decide) K')
    clear T' K'
    replace hz : w.heap.size + 1 + 1 ≤ (((W2.setCell ⟨w.heap.size + 1, 0, none⟩ (.int .i64 0)).setCell ⟨w.heap.size + 1, 1, none⟩ (.slice none 0 0))).heap.size := by simpa using hz
    generalize (W2.setCell ⟨w.heap.size + 1, 0, none⟩ (.int .i64 0)).setCell ⟨w.heap.size + 1, 1, none⟩ (.slice none 0 0) = We at *
    obtain ⟨r_rH, q_rH, r_h, q_h, -⟩ := HT.out.rules
    have z_rH : w.heap.size + 1 < We.heap.size := (HT.out.in_ 0 rfl rfl).2
    have z_h : w.heap.size < We.heap.size := (HT.out.in_ 1 rfl rfl).2
    refine bodyPost_ret (v := .tuple #[.agg #[.int .i64 0, .slice none 0 0], .slice none 0 0, .int .i64 8]) (by simp [results, Try.results26, go_sem, r_rH]) rfl ?_
    unfold CollD collV collH collE
    rw [if_pos Hf.out, if_pos Hf.out, if_pos Hf.out]
    exact ⟨_, none, 0, rfl, .zero, RdSl.nil, HT.out.below⟩
end Go.Proofs.Ytfafnjkinolkmaa
