/- The walk of treadwheelref.TransferOf. No condition beside what is read. -/
import Derived.Test.YtfafnjkinolkmaaTransfer
import Derived.Test.YtfafnjkinolkmaaTransFix
import Derived.Test.YtfafnjkinolkmaaReachD
import Derived.Test.YtfafnjkinolkmaaHeapCopy
import Derived.Test.YtfafnjkinolkmaaLedP
namespace Go.Proofs.Ytfafnjkinolkmaa
open Go.RowKit

theorem St.drewN {B : Nat} {w0 w : World} {R : List Res} (h : St B w0 w R) (n : Nat) : St B w0 (w.drewN n) R ∧ Keeps w R (w.drewN n) R :=
  ⟨⟨below_drewN h.below n, fun r hr => r.stab (w := w) (fun _ _ => rfl) (h.ok r hr), h.foot, h.apart, h.base⟩, fun _ _ hf => ⟨hf, rfl⟩⟩
/-- What has been carried behind k rounds. -/
def carr (fr tt : List Ob) (l : List Int) (k : Nat) : List Ob := tt ++ (l.take k).map (fun i => ⟨(fieldsOf fr i).map (newV (plM tt.length l)), false⟩)
theorem carr_zero (fr tt : List Ob) (l : List Int) : carr fr tt l 0 = tt := by simp [carr]
theorem carr_next {fr tt : List Ob} {l : List Int} {k : Nat} {x : Int} (hk : l[k]? = some x) : carr fr tt l (k + 1) = carr fr tt l k ++ [⟨(fieldsOf fr x).map (newV (plM tt.length l)), false⟩] := by
  unfold carr
  rw [List.take_add_one, hk]
  simp
theorem carr_all (fr tt : List Ob) (l : List Int) : carr fr tt l l.length = partC fr tt l l.length := by rw [partC_all]; simp [carr]
theorem rd_i_at {w : World} {S : Nat → Prop} {b o n c : Nat} {xs : List Int} (h : RdSl iE w S (.slice (some ⟨b, o, none⟩) n c) xs) {i : Nat} {x : Int} (hx : xs[i]? = some x) : w.cell? ⟨b, o + i, none⟩ = some (.int .i64 x) := by
  obtain ⟨b', o', e, _, _, y⟩ := h.at_i hx
  injection e with e
  injection e with e1 e2
  subst e1 e2
  exact y
theorem rd_o_at {w : World} {S : Nat → Prop} {b o n c : Nat} {xs : List Ob} (h : RdSl obE w S (.slice (some ⟨b, o, none⟩) n c) xs) {i : Nat} {x : Ob} (hx : xs[i]? = some x) :
    ∃ B d, w.cell? ⟨b, o + i * 2, none⟩ = some (.slice B x.fields.length d) ∧ RdSl vE w S (.slice B x.fields.length d) x.fields := by
  obtain ⟨b', o', B, d, e, _, _, y, _, r⟩ := h.at_o hx
  injection e with e
  injection e with e1 e2
  subst e1 e2
  exact ⟨B, d, y, r⟩
theorem any_next {p : Int → Bool} {l : List Int} {k : Nat} {x : Int} (hk : l[k]? = some x) : (l.take (k + 1)).any p = ((l.take k).any p || p x) := by
  rw [List.take_add_one, hk]
  simp

set_option maxRecDepth 100000 in
set_option maxHeartbeats 8000000 in
theorem transferOf_any (m m2 : Int) (S T : Nat → Prop) (A B : Option Addr) (c d : Nat) (fr tt : List Ob) (v : V) (move : Bool) (w : World) (hr : RdSl obE w S (.slice A fr.length c) fr) (hq : RdSl obE w T (.slice B tt.length d) tt) :
    Calls Try.prog 18 #[.agg #[.int .i64 m, .slice A fr.length c], .agg #[.int .i64 v.k, .int .i64 v.n], .agg #[.int .i64 m2, .slice B tt.length d], .bool move] w (TransD w ⟨m, fr⟩ v ⟨m2, tt⟩ (reachL fr [v]) move) := by
  have Hr := Lib.hid hr
  have Hq := Lib.hid hq
  obtain ⟨-, h1, h2, h3⟩ := hr.lims
  obtain ⟨-, h4, h5, h6⟩ := hq.lims
  have hfb := Lib.hid h3
  have htb := Lib.hid h6
  clear hr hq h3 h6
  have T0 : St w.heap.size w (((((((w.alloc (.cells #[.int .i64 m, .slice A fr.length c] 26)).alloc (.cells #[.int .i64 v.k, .int .i64 v.n] 31)).alloc (.cells #[.int .i64 m2, .slice B tt.length d] 26)).alloc (.cells #[.int .i64 0, .slice none 0 0] 26)).alloc (.cells #[.int .i64 0, .slice none 0 0] 26)).alloc (.cells #[.int .i64 0, .int .i64 0] 31))) [.blk (w.heap.size + 1 + 1 + 1 + 1 + 1) #[.int .i64 0, .int .i64 0] 31, .blk (w.heap.size + 1 + 1 + 1 + 1) #[.int .i64 0, .slice none 0 0] 26, .blk (w.heap.size + 1 + 1 + 1) #[.int .i64 0, .slice none 0 0] 26, .blk (w.heap.size + 1 + 1) #[.int .i64 m2, .slice B tt.length d] 26, .blk (w.heap.size + 1) #[.int .i64 v.k, .int .i64 v.n] 31, .blk w.heap.size #[.int .i64 m, .slice A fr.length c] 26] := ((((((((((((St.start w (Nat.le_refl _)).new' #[.int .i64 m, .slice A fr.length c] 26 (w.heap.size) (by simp)).1).new' #[.int .i64 v.k, .int .i64 v.n] 31 (w.heap.size + 1) (by simp)).1).new' #[.int .i64 m2, .slice B tt.length d] 26 (w.heap.size + 1 + 1) (by simp)).1).new' #[.int .i64 0, .slice none 0 0] 26 (w.heap.size + 1 + 1 + 1) (by simp)).1).new' #[.int .i64 0, .slice none 0 0] 26 (w.heap.size + 1 + 1 + 1 + 1) (by simp)).1).new' #[.int .i64 0, .int .i64 0] 31 (w.heap.size + 1 + 1 + 1 + 1 + 1) (by simp)).1
  have HT0 := Lib.hid T0
  have hz0 : w.heap.size + 1 + 1 + 1 + 1 + 1 + 1 ≤ ((((((w.alloc (.cells #[.int .i64 m, .slice A fr.length c] 26)).alloc (.cells #[.int .i64 v.k, .int .i64 v.n] 31)).alloc (.cells #[.int .i64 m2, .slice B tt.length d] 26)).alloc (.cells #[.int .i64 0, .slice none 0 0] 26)).alloc (.cells #[.int .i64 0, .slice none 0 0] 26)).alloc (.cells #[.int .i64 0, .int .i64 0] 31)).heap.size := by simp
  replace Hr := Lib.hid (Hr.out.pool (by decide) T0)
  replace Hq := Lib.hid (Hq.out.pool (by decide) T0)
  clear T0
  have refused : ∀ r : Int, transE ⟨m, fr⟩ v ⟨m2, tt⟩ (reachL fr [v]) = r → r ≠ 0 → TransD w ⟨m, fr⟩ v ⟨m2, tt⟩ (reachL fr [v]) move = fun en w' => ∃ u1 u2, en = .returned (.tuple #[u1, u2, .agg #[.int .i64 0, .int .i64 0], .int .i64 r]) ∧ RdH w' w.heap.size u1 ⟨0, []⟩ ∧ RdH w' w.heap.size u2 ⟨0, []⟩ ∧ Below w.heap.size w w' := by
    intro r he hr0
    have hn : ¬ transE ⟨m, fr⟩ v ⟨m2, tt⟩ (reachL fr [v]) = 0 := by rw [he]; exact hr0
    funext en w'
    unfold TransD transFrom transTo transV
    rw [if_neg hn, if_neg hn, if_neg hn, he]
  by_cases hp1 : hpB ⟨m, fr⟩ [v] = true
  · have Hok := Lib.hid (hpB_refs hp1)
    have Hslim := Lib.hid (hpB_slim hp1)
    have HC1 := Lib.hid hp1
    by_cases hp2 : hpB ⟨m2, tt⟩ [] = true
    · have HC2 := Lib.hid hp2
      have HT := HT0
      have hw := hz0
      clear HT0 hz0
      go_enter Try.func18, Try.ntmps18
      go_upto_region 1 with fail
      generalize ((((((w.alloc (.cells #[.int .i64 m, .slice A fr.length c] 26)).alloc (.cells #[.int .i64 v.k, .int .i64 v.n] 31)).alloc (.cells #[.int .i64 m2, .slice B tt.length d] 26)).alloc (.cells #[.int .i64 0, .slice none 0 0] 26)).alloc (.cells #[.int .i64 0, .slice none 0 0] 26)).alloc (.cells #[.int .i64 0, .int .i64 0] 31)) = W0 at *
      obtain ⟨r_rV, q_rV, r_rB, q_rB, r_rA, q_rA, r_to, q_to, r_v, q_v, r_from, q_from, -⟩ := HT.out.rules
      have z_rV : w.heap.size + 1 + 1 + 1 + 1 + 1 < W0.heap.size := (HT.out.in_ 0 rfl rfl).2
      have z_rB : w.heap.size + 1 + 1 + 1 + 1 < W0.heap.size := (HT.out.in_ 1 rfl rfl).2
      have z_rA : w.heap.size + 1 + 1 + 1 < W0.heap.size := (HT.out.in_ 2 rfl rfl).2
      have z_to : w.heap.size + 1 + 1 < W0.heap.size := (HT.out.in_ 3 rfl rfl).2
      have z_v : w.heap.size + 1 < W0.heap.size := (HT.out.in_ 4 rfl rfl).2
      have z_from : w.heap.size < W0.heap.size := (HT.out.in_ 5 rfl rfl).2
      go_wp2_with fail
      obtain ⟨T', K'⟩ := HT.out.alloc (.cells #[.int .i64 v.k, .int .i64 v.n] 31)
      replace T' : St w.heap.size w ((W0.alloc (.cells #[.int .i64 v.k, .int .i64 v.n] 31))) [.blk (w.heap.size + 1 + 1 + 1 + 1 + 1) #[.int .i64 0, .int .i64 0] 31, .blk (w.heap.size + 1 + 1 + 1 + 1) #[.int .i64 0, .slice none 0 0] 26, .blk (w.heap.size + 1 + 1 + 1) #[.int .i64 0, .slice none 0 0] 26, .blk (w.heap.size + 1 + 1) #[.int .i64 m2, .slice B tt.length d] 26, .blk (w.heap.size + 1) #[.int .i64 v.k, .int .i64 v.n] 31, .blk w.heap.size #[.int .i64 m, .slice A fr.length c] 26] := T'
      replace K' : Keeps W0 [.blk (w.heap.size + 1 + 1 + 1 + 1 + 1) #[.int .i64 0, .int .i64 0] 31, .blk (w.heap.size + 1 + 1 + 1 + 1) #[.int .i64 0, .slice none 0 0] 26, .blk (w.heap.size + 1 + 1 + 1) #[.int .i64 0, .slice none 0 0] 26, .blk (w.heap.size + 1 + 1) #[.int .i64 m2, .slice B tt.length d] 26, .blk (w.heap.size + 1) #[.int .i64 v.k, .int .i64 v.n] 31, .blk w.heap.size #[.int .i64 m, .slice A fr.length c] 26] ((W0.alloc (.cells #[.int .i64 v.k, .int .i64 v.n] 31))) [.blk (w.heap.size + 1 + 1 + 1 + 1 + 1) #[.int .i64 0, .int .i64 0] 31, .blk (w.heap.size + 1 + 1 + 1 + 1) #[.int .i64 0, .slice none 0 0] 26, .blk (w.heap.size + 1 + 1 + 1) #[.int .i64 0, .slice none 0 0] 26, .blk (w.heap.size + 1 + 1) #[.int .i64 m2, .slice B tt.length d] 26, .blk (w.heap.size + 1) #[.int .i64 v.k, .int .i64 v.n] 31, .blk w.heap.size #[.int .i64 m, .slice A fr.length c] 26] := K'
      replace HT := Lib.hid T'
      replace Hr := Lib.hid (Hr.out.move (by decide) K')
      replace Hq := Lib.hid (Hq.out.move (by decide) K')
      clear T' K'
      replace hw : w.heap.size + 1 + 1 + 1 + 1 + 1 + 1 ≤ ((W0.alloc (.cells #[.int .i64 v.k, .int .i64 v.n] 31))).heap.size := Nat.le_trans hw (by simp)
      refine (may_is m _ _ A _ c 1 fr [v] _ _ HC1 Hr.out (rd_one (blk_at rfl))).mono ?_
      rintro e W1 ⟨rfl, hb⟩
      clear r_rV q_rV r_rB q_rB r_rA q_rA r_to q_to r_v q_v r_from q_from z_rV z_rB z_rA z_to z_v z_from
      obtain ⟨T', K'⟩ := HT.out.call hb
      replace T' : St w.heap.size w W1 [.blk (w.heap.size + 1 + 1 + 1 + 1 + 1) #[.int .i64 0, .int .i64 0] 31, .blk (w.heap.size + 1 + 1 + 1 + 1) #[.int .i64 0, .slice none 0 0] 26, .blk (w.heap.size + 1 + 1 + 1) #[.int .i64 0, .slice none 0 0] 26, .blk (w.heap.size + 1 + 1) #[.int .i64 m2, .slice B tt.length d] 26, .blk (w.heap.size + 1) #[.int .i64 v.k, .int .i64 v.n] 31, .blk w.heap.size #[.int .i64 m, .slice A fr.length c] 26] := T'
      replace K' : Keeps ((W0.alloc (.cells #[.int .i64 v.k, .int .i64 v.n] 31))) [.blk (w.heap.size + 1 + 1 + 1 + 1 + 1) #[.int .i64 0, .int .i64 0] 31, .blk (w.heap.size + 1 + 1 + 1 + 1) #[.int .i64 0, .slice none 0 0] 26, .blk (w.heap.size + 1 + 1 + 1) #[.int .i64 0, .slice none 0 0] 26, .blk (w.heap.size + 1 + 1) #[.int .i64 m2, .slice B tt.length d] 26, .blk (w.heap.size + 1) #[.int .i64 v.k, .int .i64 v.n] 31, .blk w.heap.size #[.int .i64 m, .slice A fr.length c] 26] W1 [.blk (w.heap.size + 1 + 1 + 1 + 1 + 1) #[.int .i64 0, .int .i64 0] 31, .blk (w.heap.size + 1 + 1 + 1 + 1) #[.int .i64 0, .slice none 0 0] 26, .blk (w.heap.size + 1 + 1 + 1) #[.int .i64 0, .slice none 0 0] 26, .blk (w.heap.size + 1 + 1) #[.int .i64 m2, .slice B tt.length d] 26, .blk (w.heap.size + 1) #[.int .i64 v.k, .int .i64 v.n] 31, .blk w.heap.size #[.int .i64 m, .slice A fr.length c] 26] := K'
      replace HT := Lib.hid T'
      replace Hr := Lib.hid (Hr.out.move (by decide) K')
      replace Hq := Lib.hid (Hq.out.move (by decide) K')
      clear T' K'
      replace hw : w.heap.size + 1 + 1 + 1 + 1 + 1 + 1 ≤ W1.heap.size := Nat.le_trans hw hb.size
      clear hb
      obtain ⟨r_rV, q_rV, r_rB, q_rB, r_rA, q_rA, r_to, q_to, r_v, q_v, r_from, q_from, -⟩ := HT.out.rules
      have z_rV : w.heap.size + 1 + 1 + 1 + 1 + 1 < W1.heap.size := (HT.out.in_ 0 rfl rfl).2
      have z_rB : w.heap.size + 1 + 1 + 1 + 1 < W1.heap.size := (HT.out.in_ 1 rfl rfl).2
      have z_rA : w.heap.size + 1 + 1 + 1 < W1.heap.size := (HT.out.in_ 2 rfl rfl).2
      have z_to : w.heap.size + 1 + 1 < W1.heap.size := (HT.out.in_ 3 rfl rfl).2
      have z_v : w.heap.size + 1 < W1.heap.size := (HT.out.in_ 4 rfl rfl).2
      have z_from : w.heap.size < W1.heap.size := (HT.out.in_ 5 rfl rfl).2
      go_wp2_with fail
      refine (may_is m2 _ (fun _ => True) B none d 0 tt [] _ _ HC2 Hq.out RdSl.nil).mono ?_
      rintro e W2 ⟨rfl, hb⟩
      clear r_rV q_rV r_rB q_rB r_rA q_rA r_to q_to r_v q_v r_from q_from z_rV z_rB z_rA z_to z_v z_from
      obtain ⟨T', K'⟩ := HT.out.call hb
      replace T' : St w.heap.size w W2 [.blk (w.heap.size + 1 + 1 + 1 + 1 + 1) #[.int .i64 0, .int .i64 0] 31, .blk (w.heap.size + 1 + 1 + 1 + 1) #[.int .i64 0, .slice none 0 0] 26, .blk (w.heap.size + 1 + 1 + 1) #[.int .i64 0, .slice none 0 0] 26, .blk (w.heap.size + 1 + 1) #[.int .i64 m2, .slice B tt.length d] 26, .blk (w.heap.size + 1) #[.int .i64 v.k, .int .i64 v.n] 31, .blk w.heap.size #[.int .i64 m, .slice A fr.length c] 26] := T'
      replace K' : Keeps W1 [.blk (w.heap.size + 1 + 1 + 1 + 1 + 1) #[.int .i64 0, .int .i64 0] 31, .blk (w.heap.size + 1 + 1 + 1 + 1) #[.int .i64 0, .slice none 0 0] 26, .blk (w.heap.size + 1 + 1 + 1) #[.int .i64 0, .slice none 0 0] 26, .blk (w.heap.size + 1 + 1) #[.int .i64 m2, .slice B tt.length d] 26, .blk (w.heap.size + 1) #[.int .i64 v.k, .int .i64 v.n] 31, .blk w.heap.size #[.int .i64 m, .slice A fr.length c] 26] W2 [.blk (w.heap.size + 1 + 1 + 1 + 1 + 1) #[.int .i64 0, .int .i64 0] 31, .blk (w.heap.size + 1 + 1 + 1 + 1) #[.int .i64 0, .slice none 0 0] 26, .blk (w.heap.size + 1 + 1 + 1) #[.int .i64 0, .slice none 0 0] 26, .blk (w.heap.size + 1 + 1) #[.int .i64 m2, .slice B tt.length d] 26, .blk (w.heap.size + 1) #[.int .i64 v.k, .int .i64 v.n] 31, .blk w.heap.size #[.int .i64 m, .slice A fr.length c] 26] := K'
      replace HT := Lib.hid T'
      replace Hr := Lib.hid (Hr.out.move (by decide) K')
      replace Hq := Lib.hid (Hq.out.move (by decide) K')
      clear T' K'
      replace hw : w.heap.size + 1 + 1 + 1 + 1 + 1 + 1 ≤ W2.heap.size := Nat.le_trans hw hb.size
      clear hb
      obtain ⟨r_rV, q_rV, r_rB, q_rB, r_rA, q_rA, r_to, q_to, r_v, q_v, r_from, q_from, -⟩ := HT.out.rules
      have z_rV : w.heap.size + 1 + 1 + 1 + 1 + 1 < W2.heap.size := (HT.out.in_ 0 rfl rfl).2
      have z_rB : w.heap.size + 1 + 1 + 1 + 1 < W2.heap.size := (HT.out.in_ 1 rfl rfl).2
      have z_rA : w.heap.size + 1 + 1 + 1 < W2.heap.size := (HT.out.in_ 2 rfl rfl).2
      have z_to : w.heap.size + 1 + 1 < W2.heap.size := (HT.out.in_ 3 rfl rfl).2
      have z_v : w.heap.size + 1 < W2.heap.size := (HT.out.in_ 4 rfl rfl).2
      have z_from : w.heap.size < W2.heap.size := (HT.out.in_ 5 rfl rfl).2
      go_wp2_with fail
      obtain ⟨T', K'⟩ := HT.out.alloc (.cells #[.int .i64 v.k, .int .i64 v.n] 31)
      replace T' : St w.heap.size w ((W2.alloc (.cells #[.int .i64 v.k, .int .i64 v.n] 31))) [.blk (w.heap.size + 1 + 1 + 1 + 1 + 1) #[.int .i64 0, .int .i64 0] 31, .blk (w.heap.size + 1 + 1 + 1 + 1) #[.int .i64 0, .slice none 0 0] 26, .blk (w.heap.size + 1 + 1 + 1) #[.int .i64 0, .slice none 0 0] 26, .blk (w.heap.size + 1 + 1) #[.int .i64 m2, .slice B tt.length d] 26, .blk (w.heap.size + 1) #[.int .i64 v.k, .int .i64 v.n] 31, .blk w.heap.size #[.int .i64 m, .slice A fr.length c] 26] := T'
      replace K' : Keeps W2 [.blk (w.heap.size + 1 + 1 + 1 + 1 + 1) #[.int .i64 0, .int .i64 0] 31, .blk (w.heap.size + 1 + 1 + 1 + 1) #[.int .i64 0, .slice none 0 0] 26, .blk (w.heap.size + 1 + 1 + 1) #[.int .i64 0, .slice none 0 0] 26, .blk (w.heap.size + 1 + 1) #[.int .i64 m2, .slice B tt.length d] 26, .blk (w.heap.size + 1) #[.int .i64 v.k, .int .i64 v.n] 31, .blk w.heap.size #[.int .i64 m, .slice A fr.length c] 26] ((W2.alloc (.cells #[.int .i64 v.k, .int .i64 v.n] 31))) [.blk (w.heap.size + 1 + 1 + 1 + 1 + 1) #[.int .i64 0, .int .i64 0] 31, .blk (w.heap.size + 1 + 1 + 1 + 1) #[.int .i64 0, .slice none 0 0] 26, .blk (w.heap.size + 1 + 1 + 1) #[.int .i64 0, .slice none 0 0] 26, .blk (w.heap.size + 1 + 1) #[.int .i64 m2, .slice B tt.length d] 26, .blk (w.heap.size + 1) #[.int .i64 v.k, .int .i64 v.n] 31, .blk w.heap.size #[.int .i64 m, .slice A fr.length c] 26] := K'
      replace HT := Lib.hid T'
      replace Hr := Lib.hid (Hr.out.move (by decide) K')
      replace Hq := Lib.hid (Hq.out.move (by decide) K')
      clear T' K'
      replace hw : w.heap.size + 1 + 1 + 1 + 1 + 1 + 1 ≤ ((W2.alloc (.cells #[.int .i64 v.k, .int .i64 v.n] 31))).heap.size := Nat.le_trans hw (by simp)
      refine (ledTo_any m _ _ A _ c 1 fr [v] _ Hr.out (rd_one (blk_at rfl)) Hok.out Hslim.out).mono ?_
      rintro e W3 ⟨v3, l, rfl, hled, htold, hown3, hb⟩
      obtain ⟨R3, c3, rfl⟩ := own_form hown3
      have Hl := Lib.hid ((own_i hown3 (by have := htold.len; have := Hok.out.few; omega)).rd.keep (S' := fun b => ((W2.alloc (.cells #[.int .i64 v.k, .int .i64 v.n] 31))).heap.size ≤ b) (by decide) (fun b _ h => ⟨h.elim (fun h => h.elim) id, rfl⟩))
      have HRL := Lib.hid (reachL_is hled)
      have Hfresh := Lib.hid (HT.out)
      obtain ⟨T', K'⟩ := HT.out.call hb
      replace T' : St w.heap.size w W3 [.blk (w.heap.size + 1 + 1 + 1 + 1 + 1) #[.int .i64 0, .int .i64 0] 31, .blk (w.heap.size + 1 + 1 + 1 + 1) #[.int .i64 0, .slice none 0 0] 26, .blk (w.heap.size + 1 + 1 + 1) #[.int .i64 0, .slice none 0 0] 26, .blk (w.heap.size + 1 + 1) #[.int .i64 m2, .slice B tt.length d] 26, .blk (w.heap.size + 1) #[.int .i64 v.k, .int .i64 v.n] 31, .blk w.heap.size #[.int .i64 m, .slice A fr.length c] 26] := T'
      replace K' : Keeps ((W2.alloc (.cells #[.int .i64 v.k, .int .i64 v.n] 31))) [.blk (w.heap.size + 1 + 1 + 1 + 1 + 1) #[.int .i64 0, .int .i64 0] 31, .blk (w.heap.size + 1 + 1 + 1 + 1) #[.int .i64 0, .slice none 0 0] 26, .blk (w.heap.size + 1 + 1 + 1) #[.int .i64 0, .slice none 0 0] 26, .blk (w.heap.size + 1 + 1) #[.int .i64 m2, .slice B tt.length d] 26, .blk (w.heap.size + 1) #[.int .i64 v.k, .int .i64 v.n] 31, .blk w.heap.size #[.int .i64 m, .slice A fr.length c] 26] W3 [.blk (w.heap.size + 1 + 1 + 1 + 1 + 1) #[.int .i64 0, .int .i64 0] 31, .blk (w.heap.size + 1 + 1 + 1 + 1) #[.int .i64 0, .slice none 0 0] 26, .blk (w.heap.size + 1 + 1 + 1) #[.int .i64 0, .slice none 0 0] 26, .blk (w.heap.size + 1 + 1) #[.int .i64 m2, .slice B tt.length d] 26, .blk (w.heap.size + 1) #[.int .i64 v.k, .int .i64 v.n] 31, .blk w.heap.size #[.int .i64 m, .slice A fr.length c] 26] := K'
      replace HT := Lib.hid T'
      replace Hr := Lib.hid (Hr.out.move (by decide) K')
      replace Hq := Lib.hid (Hq.out.move (by decide) K')
      clear T' K'
      replace hw : w.heap.size + 1 + 1 + 1 + 1 + 1 + 1 ≤ W3.heap.size := Nat.le_trans hw hb.size
      clear hb
      replace Hl := Lib.hid (Hl.out.fresh (by decide) Hfresh.out (Nat.zero_le _))
      clear Hfresh
      have Htold := Lib.hid htold
      have Hshut := Lib.hid hled.shut
      have Hroot := Lib.hid (hled.roots v (by simp))
      have hlen : l.length ≤ fr.length := htold.len
      have hfew := Hok.out.few
      have htf : tt.length ≤ 60 := (hpB_refs hp2).few
      clear hled htold hown3
      clear r_rV q_rV r_rB q_rB r_rA q_rA r_to q_to r_v q_v r_from q_from z_rV z_rB z_rA z_to z_v z_from
      obtain ⟨r_rV, q_rV, r_rB, q_rB, r_rA, q_rA, r_to, q_to, r_v, q_v, r_from, q_from, -⟩ := HT.out.rules
      have z_rV : w.heap.size + 1 + 1 + 1 + 1 + 1 < W3.heap.size := (HT.out.in_ 0 rfl rfl).2
      have z_rB : w.heap.size + 1 + 1 + 1 + 1 < W3.heap.size := (HT.out.in_ 1 rfl rfl).2
      have z_rA : w.heap.size + 1 + 1 + 1 < W3.heap.size := (HT.out.in_ 2 rfl rfl).2
      have z_to : w.heap.size + 1 + 1 < W3.heap.size := (HT.out.in_ 3 rfl rfl).2
      have z_v : w.heap.size + 1 < W3.heap.size := (HT.out.in_ 4 rfl rfl).2
      have z_from : w.heap.size < W3.heap.size := (HT.out.in_ 5 rfl rfl).2
      go_upto_region 4 with fail
      obtain ⟨T', K'⟩ := HT.out.new' #[.slice R3 l.length c3] 48 W3.heap.size (by first | (simp; done) | rfl)
      replace T' : St w.heap.size w ((W3.alloc (.cells #[.slice R3 l.length c3] 48))) [.blk W3.heap.size #[.slice R3 l.length c3] 48, .blk (w.heap.size + 1 + 1 + 1 + 1 + 1) #[.int .i64 0, .int .i64 0] 31, .blk (w.heap.size + 1 + 1 + 1 + 1) #[.int .i64 0, .slice none 0 0] 26, .blk (w.heap.size + 1 + 1 + 1) #[.int .i64 0, .slice none 0 0] 26, .blk (w.heap.size + 1 + 1) #[.int .i64 m2, .slice B tt.length d] 26, .blk (w.heap.size + 1) #[.int .i64 v.k, .int .i64 v.n] 31, .blk w.heap.size #[.int .i64 m, .slice A fr.length c] 26] := T'
      replace K' : Keeps W3 [.blk (w.heap.size + 1 + 1 + 1 + 1 + 1) #[.int .i64 0, .int .i64 0] 31, .blk (w.heap.size + 1 + 1 + 1 + 1) #[.int .i64 0, .slice none 0 0] 26, .blk (w.heap.size + 1 + 1 + 1) #[.int .i64 0, .slice none 0 0] 26, .blk (w.heap.size + 1 + 1) #[.int .i64 m2, .slice B tt.length d] 26, .blk (w.heap.size + 1) #[.int .i64 v.k, .int .i64 v.n] 31, .blk w.heap.size #[.int .i64 m, .slice A fr.length c] 26] ((W3.alloc (.cells #[.slice R3 l.length c3] 48))) [.blk W3.heap.size #[.slice R3 l.length c3] 48, .blk (w.heap.size + 1 + 1 + 1 + 1 + 1) #[.int .i64 0, .int .i64 0] 31, .blk (w.heap.size + 1 + 1 + 1 + 1) #[.int .i64 0, .slice none 0 0] 26, .blk (w.heap.size + 1 + 1 + 1) #[.int .i64 0, .slice none 0 0] 26, .blk (w.heap.size + 1 + 1) #[.int .i64 m2, .slice B tt.length d] 26, .blk (w.heap.size + 1) #[.int .i64 v.k, .int .i64 v.n] 31, .blk w.heap.size #[.int .i64 m, .slice A fr.length c] 26] := K'
      replace HT := Lib.hid T'
      replace Hr := Lib.hid (Hr.out.move (by decide) K')
      replace Hq := Lib.hid (Hq.out.move (by decide) K')
      replace Hl := Lib.hid (Hl.out.move (by decide) K')
      clear T' K'
      replace hw : w.heap.size + 1 + 1 + 1 + 1 + 1 + 1 ≤ ((W3.alloc (.cells #[.slice R3 l.length c3] 48))).heap.size := Nat.le_trans hw (by simp)
      clear r_rV q_rV r_rB q_rB r_rA q_rA r_to q_to r_v q_v r_from q_from z_rV z_rB z_rA z_to z_v z_from
      generalize (W3.alloc (.cells #[.slice R3 l.length c3] 48)) = W4 at *
      obtain ⟨r_l, q_l, r_rV, q_rV, r_rB, q_rB, r_rA, q_rA, r_to, q_to, -, -, r_from, q_from, -⟩ := HT.out.rules
      have z_l : W3.heap.size < W4.heap.size := (HT.out.in_ 0 rfl rfl).2
      have z_rV : w.heap.size + 1 + 1 + 1 + 1 + 1 < W4.heap.size := (HT.out.in_ 1 rfl rfl).2
      have z_rB : w.heap.size + 1 + 1 + 1 + 1 < W4.heap.size := (HT.out.in_ 2 rfl rfl).2
      have z_rA : w.heap.size + 1 + 1 + 1 < W4.heap.size := (HT.out.in_ 3 rfl rfl).2
      have z_to : w.heap.size + 1 + 1 < W4.heap.size := (HT.out.in_ 4 rfl rfl).2
      have z_from : w.heap.size < W4.heap.size := (HT.out.in_ 6 rfl rfl).2
      go_wp2_with fail
      go_loopw [13] (fun i wr => ∃ k : Nat, k ≤ l.length ∧ i = .int .i64 k ∧ (l.take k).any (deadAt fr) = false ∧ ∃ q, wr = W4.drewN q) (fun i _ => l.length - (intOf i).toNat)
      case atStart => exact ⟨0, Nat.zero_le _, rfl, by simp, 0, rfl⟩
      case round =>
        obtain ⟨k, hk, rfl, hany, q, rfl⟩ := hrel
        by_cases hlt : k < l.length
        · obtain ⟨x, hx⟩ : ∃ x, l[k]? = some x := ⟨l[k], List.getElem?_eq_getElem hlt⟩
          have hxw := Htold.out.within x (List.mem_of_getElem? hx)
          obtain ⟨j, rfl⟩ : ∃ j : Nat, x = (j : Int) := ⟨x.toNat, by omega⟩
          obtain ⟨b, o, rfl, _, _, y0⟩ := Hl.out.at_i hx
          have hob : fr[j]? = some fr[j] := List.getElem?_eq_getElem (by omega)
          obtain ⟨pb, po, B1, d1, rfl, _, _, z0, z1, _⟩ := Hr.out.at_o hob
          have hdd : deadAt fr (j : Int) = (fr[j]).dead := by simp [deadAt, hob]
          have hnx := any_next (p := deadAt fr) hx
          rw [hany, Bool.false_or, hdd] at hnx
          have hmem := List.mem_of_getElem? hx
          have Hmem := Lib.hid hmem
          have Hdd := Lib.hid hdd
          have Hnx := Lib.hid hnx
          clear hx hob hdd hnx hmem hany
          have i1 : (0 : Int) ≤ (k : Int) := by omega
          have i2 : (k : Int) < (l.length : Int) := by omega
          have i3 : (0 : Int) ≤ (j : Int) := by omega
          have i4 : (j : Int) < (fr.length : Int) := by omega
          generalize (fr[j]).dead = dd at *
          cases dd
          · go_wp2
            go_quiet (fail)
            go_wp2
            go_roundw
            case rel => exact ⟨k + 1, by omega, by go_num, Hnx.out, _, rfl⟩
            case measure => simp [intOf]; omega
          · have hdead : l.any (deadAt fr) = true := List.any_eq_true.2 ⟨_, Hmem.out, Hdd.out⟩
            have hE : transE ⟨m, fr⟩ v ⟨m2, tt⟩ (reachL fr [v]) = 10 := by
              rw [HRL.out]
              unfold transE
              rw [if_neg (by rw [hp1]; decide), if_neg (by rw [hp2]; decide), if_pos hdead]
            have HRF := Lib.hid (refused 10 hE (by decide))
            clear refused hE hdead
            go_wp2
            go_quiet (fail)
            go_wp2
            obtain ⟨T', K'⟩ := HT.out.drewN (q + nq)
            replace T' : St w.heap.size w ((W4.drewN (q + nq))) [.blk W3.heap.size #[.slice (some ⟨b, o, none⟩) l.length c3] 48, .blk (w.heap.size + 1 + 1 + 1 + 1 + 1) #[.int .i64 0, .int .i64 0] 31, .blk (w.heap.size + 1 + 1 + 1 + 1) #[.int .i64 0, .slice none 0 0] 26, .blk (w.heap.size + 1 + 1 + 1) #[.int .i64 0, .slice none 0 0] 26, .blk (w.heap.size + 1 + 1) #[.int .i64 m2, .slice B tt.length d] 26, .blk (w.heap.size + 1) #[.int .i64 v.k, .int .i64 v.n] 31, .blk w.heap.size #[.int .i64 m, .slice (some ⟨pb, po, none⟩) fr.length c] 26] := T'
            replace K' : Keeps W4 [.blk W3.heap.size #[.slice (some ⟨b, o, none⟩) l.length c3] 48, .blk (w.heap.size + 1 + 1 + 1 + 1 + 1) #[.int .i64 0, .int .i64 0] 31, .blk (w.heap.size + 1 + 1 + 1 + 1) #[.int .i64 0, .slice none 0 0] 26, .blk (w.heap.size + 1 + 1 + 1) #[.int .i64 0, .slice none 0 0] 26, .blk (w.heap.size + 1 + 1) #[.int .i64 m2, .slice B tt.length d] 26, .blk (w.heap.size + 1) #[.int .i64 v.k, .int .i64 v.n] 31, .blk w.heap.size #[.int .i64 m, .slice (some ⟨pb, po, none⟩) fr.length c] 26] ((W4.drewN (q + nq))) [.blk W3.heap.size #[.slice (some ⟨b, o, none⟩) l.length c3] 48, .blk (w.heap.size + 1 + 1 + 1 + 1 + 1) #[.int .i64 0, .int .i64 0] 31, .blk (w.heap.size + 1 + 1 + 1 + 1) #[.int .i64 0, .slice none 0 0] 26, .blk (w.heap.size + 1 + 1 + 1) #[.int .i64 0, .slice none 0 0] 26, .blk (w.heap.size + 1 + 1) #[.int .i64 m2, .slice B tt.length d] 26, .blk (w.heap.size + 1) #[.int .i64 v.k, .int .i64 v.n] 31, .blk w.heap.size #[.int .i64 m, .slice (some ⟨pb, po, none⟩) fr.length c] 26] := K'
            replace HT := Lib.hid T'
            replace Hr := Lib.hid (Hr.out.move (by decide) K')
            replace Hq := Lib.hid (Hq.out.move (by decide) K')
            replace Hl := Lib.hid (Hl.out.move (by decide) K')
            clear T' K'
            replace hw : w.heap.size + 1 + 1 + 1 + 1 + 1 + 1 ≤ ((W4.drewN (q + nq))).heap.size := hw
            clear r_l q_l r_rV q_rV r_rB q_rB r_rA q_rA r_to q_to r_from q_from z_l z_rV z_rB z_rA z_to z_from
            obtain ⟨T', K'⟩ := HT.out.put2 3 (.int .i64 0) (.slice none 0 0) rfl rfl
            replace T' : St w.heap.size w ((((W4.drewN (q + nq)).setCell ⟨w.heap.size + 1 + 1 + 1, 0, none⟩ (.int .i64 0)).setCell ⟨w.heap.size + 1 + 1 + 1, 1, none⟩ (.slice none 0 0))) [.blk W3.heap.size #[.slice (some ⟨b, o, none⟩) l.length c3] 48, .blk (w.heap.size + 1 + 1 + 1 + 1 + 1) #[.int .i64 0, .int .i64 0] 31, .blk (w.heap.size + 1 + 1 + 1 + 1) #[.int .i64 0, .slice none 0 0] 26, .blk (w.heap.size + 1 + 1 + 1) #[.int .i64 0, .slice none 0 0] 26, .blk (w.heap.size + 1 + 1) #[.int .i64 m2, .slice B tt.length d] 26, .blk (w.heap.size + 1) #[.int .i64 v.k, .int .i64 v.n] 31, .blk w.heap.size #[.int .i64 m, .slice (some ⟨pb, po, none⟩) fr.length c] 26] := T'
            replace K' : Keeps ((W4.drewN (q + nq))) [.blk W3.heap.size #[.slice (some ⟨b, o, none⟩) l.length c3] 48, .blk (w.heap.size + 1 + 1 + 1 + 1 + 1) #[.int .i64 0, .int .i64 0] 31, .blk (w.heap.size + 1 + 1 + 1 + 1) #[.int .i64 0, .slice none 0 0] 26, .blk (w.heap.size + 1 + 1 + 1) #[.int .i64 0, .slice none 0 0] 26, .blk (w.heap.size + 1 + 1) #[.int .i64 m2, .slice B tt.length d] 26, .blk (w.heap.size + 1) #[.int .i64 v.k, .int .i64 v.n] 31, .blk w.heap.size #[.int .i64 m, .slice (some ⟨pb, po, none⟩) fr.length c] 26] ((((W4.drewN (q + nq)).setCell ⟨w.heap.size + 1 + 1 + 1, 0, none⟩ (.int .i64 0)).setCell ⟨w.heap.size + 1 + 1 + 1, 1, none⟩ (.slice none 0 0))) [.blk W3.heap.size #[.slice (some ⟨b, o, none⟩) l.length c3] 48, .blk (w.heap.size + 1 + 1 + 1 + 1 + 1) #[.int .i64 0, .int .i64 0] 31, .blk (w.heap.size + 1 + 1 + 1 + 1) #[.int .i64 0, .slice none 0 0] 26, .blk (w.heap.size + 1 + 1 + 1) #[.int .i64 0, .slice none 0 0] 26, .blk (w.heap.size + 1 + 1) #[.int .i64 m2, .slice B tt.length d] 26, .blk (w.heap.size + 1) #[.int .i64 v.k, .int .i64 v.n] 31, .blk w.heap.size #[.int .i64 m, .slice (some ⟨pb, po, none⟩) fr.length c] 26] := K'
            replace HT := Lib.hid T'
            replace Hr := Lib.hid (Hr.out.move (by decide) K')
            replace Hq := Lib.hid (Hq.out.move (by decide) K')
            replace Hl := Lib.hid (Hl.out.move (by decide) K')
            clear T' K'
            replace hw : w.heap.size + 1 + 1 + 1 + 1 + 1 + 1 ≤ ((((W4.drewN (q + nq)).setCell ⟨w.heap.size + 1 + 1 + 1, 0, none⟩ (.int .i64 0)).setCell ⟨w.heap.size + 1 + 1 + 1, 1, none⟩ (.slice none 0 0))).heap.size := by simpa using hw
            generalize ((W4.drewN (q + nq)).setCell ⟨w.heap.size + 1 + 1 + 1, 0, none⟩ (.int .i64 0)).setCell ⟨w.heap.size + 1 + 1 + 1, 1, none⟩ (.slice none 0 0) = W4drewNqnqs1 at *
            obtain ⟨T', K'⟩ := HT.out.put2 2 (.int .i64 0) (.slice none 0 0) rfl rfl
            replace T' : St w.heap.size w (((W4drewNqnqs1.setCell ⟨w.heap.size + 1 + 1 + 1 + 1, 0, none⟩ (.int .i64 0)).setCell ⟨w.heap.size + 1 + 1 + 1 + 1, 1, none⟩ (.slice none 0 0))) [.blk W3.heap.size #[.slice (some ⟨b, o, none⟩) l.length c3] 48, .blk (w.heap.size + 1 + 1 + 1 + 1 + 1) #[.int .i64 0, .int .i64 0] 31, .blk (w.heap.size + 1 + 1 + 1 + 1) #[.int .i64 0, .slice none 0 0] 26, .blk (w.heap.size + 1 + 1 + 1) #[.int .i64 0, .slice none 0 0] 26, .blk (w.heap.size + 1 + 1) #[.int .i64 m2, .slice B tt.length d] 26, .blk (w.heap.size + 1) #[.int .i64 v.k, .int .i64 v.n] 31, .blk w.heap.size #[.int .i64 m, .slice (some ⟨pb, po, none⟩) fr.length c] 26] := T'
            replace K' : Keeps W4drewNqnqs1 [.blk W3.heap.size #[.slice (some ⟨b, o, none⟩) l.length c3] 48, .blk (w.heap.size + 1 + 1 + 1 + 1 + 1) #[.int .i64 0, .int .i64 0] 31, .blk (w.heap.size + 1 + 1 + 1 + 1) #[.int .i64 0, .slice none 0 0] 26, .blk (w.heap.size + 1 + 1 + 1) #[.int .i64 0, .slice none 0 0] 26, .blk (w.heap.size + 1 + 1) #[.int .i64 m2, .slice B tt.length d] 26, .blk (w.heap.size + 1) #[.int .i64 v.k, .int .i64 v.n] 31, .blk w.heap.size #[.int .i64 m, .slice (some ⟨pb, po, none⟩) fr.length c] 26] (((W4drewNqnqs1.setCell ⟨w.heap.size + 1 + 1 + 1 + 1, 0, none⟩ (.int .i64 0)).setCell ⟨w.heap.size + 1 + 1 + 1 + 1, 1, none⟩ (.slice none 0 0))) [.blk W3.heap.size #[.slice (some ⟨b, o, none⟩) l.length c3] 48, .blk (w.heap.size + 1 + 1 + 1 + 1 + 1) #[.int .i64 0, .int .i64 0] 31, .blk (w.heap.size + 1 + 1 + 1 + 1) #[.int .i64 0, .slice none 0 0] 26, .blk (w.heap.size + 1 + 1 + 1) #[.int .i64 0, .slice none 0 0] 26, .blk (w.heap.size + 1 + 1) #[.int .i64 m2, .slice B tt.length d] 26, .blk (w.heap.size + 1) #[.int .i64 v.k, .int .i64 v.n] 31, .blk w.heap.size #[.int .i64 m, .slice (some ⟨pb, po, none⟩) fr.length c] 26] := K'
            replace HT := Lib.hid T'
            replace Hr := Lib.hid (Hr.out.move (by decide) K')
            replace Hq := Lib.hid (Hq.out.move (by decide) K')
            replace Hl := Lib.hid (Hl.out.move (by decide) K')
            clear T' K'
            replace hw : w.heap.size + 1 + 1 + 1 + 1 + 1 + 1 ≤ (((W4drewNqnqs1.setCell ⟨w.heap.size + 1 + 1 + 1 + 1, 0, none⟩ (.int .i64 0)).setCell ⟨w.heap.size + 1 + 1 + 1 + 1, 1, none⟩ (.slice none 0 0))).heap.size := by simpa using hw
            generalize (W4drewNqnqs1.setCell ⟨w.heap.size + 1 + 1 + 1 + 1, 0, none⟩ (.int .i64 0)).setCell ⟨w.heap.size + 1 + 1 + 1 + 1, 1, none⟩ (.slice none 0 0) = W4drewNqnqs2 at *
            obtain ⟨T', K'⟩ := HT.out.put2 1 (.int .i64 0) (.int .i64 0) rfl rfl
            replace T' : St w.heap.size w (((W4drewNqnqs2.setCell ⟨w.heap.size + 1 + 1 + 1 + 1 + 1, 0, none⟩ (.int .i64 0)).setCell ⟨w.heap.size + 1 + 1 + 1 + 1 + 1, 1, none⟩ (.int .i64 0))) [.blk W3.heap.size #[.slice (some ⟨b, o, none⟩) l.length c3] 48, .blk (w.heap.size + 1 + 1 + 1 + 1 + 1) #[.int .i64 0, .int .i64 0] 31, .blk (w.heap.size + 1 + 1 + 1 + 1) #[.int .i64 0, .slice none 0 0] 26, .blk (w.heap.size + 1 + 1 + 1) #[.int .i64 0, .slice none 0 0] 26, .blk (w.heap.size + 1 + 1) #[.int .i64 m2, .slice B tt.length d] 26, .blk (w.heap.size + 1) #[.int .i64 v.k, .int .i64 v.n] 31, .blk w.heap.size #[.int .i64 m, .slice (some ⟨pb, po, none⟩) fr.length c] 26] := T'
            replace K' : Keeps W4drewNqnqs2 [.blk W3.heap.size #[.slice (some ⟨b, o, none⟩) l.length c3] 48, .blk (w.heap.size + 1 + 1 + 1 + 1 + 1) #[.int .i64 0, .int .i64 0] 31, .blk (w.heap.size + 1 + 1 + 1 + 1) #[.int .i64 0, .slice none 0 0] 26, .blk (w.heap.size + 1 + 1 + 1) #[.int .i64 0, .slice none 0 0] 26, .blk (w.heap.size + 1 + 1) #[.int .i64 m2, .slice B tt.length d] 26, .blk (w.heap.size + 1) #[.int .i64 v.k, .int .i64 v.n] 31, .blk w.heap.size #[.int .i64 m, .slice (some ⟨pb, po, none⟩) fr.length c] 26] (((W4drewNqnqs2.setCell ⟨w.heap.size + 1 + 1 + 1 + 1 + 1, 0, none⟩ (.int .i64 0)).setCell ⟨w.heap.size + 1 + 1 + 1 + 1 + 1, 1, none⟩ (.int .i64 0))) [.blk W3.heap.size #[.slice (some ⟨b, o, none⟩) l.length c3] 48, .blk (w.heap.size + 1 + 1 + 1 + 1 + 1) #[.int .i64 0, .int .i64 0] 31, .blk (w.heap.size + 1 + 1 + 1 + 1) #[.int .i64 0, .slice none 0 0] 26, .blk (w.heap.size + 1 + 1 + 1) #[.int .i64 0, .slice none 0 0] 26, .blk (w.heap.size + 1 + 1) #[.int .i64 m2, .slice B tt.length d] 26, .blk (w.heap.size + 1) #[.int .i64 v.k, .int .i64 v.n] 31, .blk w.heap.size #[.int .i64 m, .slice (some ⟨pb, po, none⟩) fr.length c] 26] := K'
            replace HT := Lib.hid T'
            replace Hr := Lib.hid (Hr.out.move (by decide) K')
            replace Hq := Lib.hid (Hq.out.move (by decide) K')
            replace Hl := Lib.hid (Hl.out.move (by decide) K')
            clear T' K'
            replace hw : w.heap.size + 1 + 1 + 1 + 1 + 1 + 1 ≤ (((W4drewNqnqs2.setCell ⟨w.heap.size + 1 + 1 + 1 + 1 + 1, 0, none⟩ (.int .i64 0)).setCell ⟨w.heap.size + 1 + 1 + 1 + 1 + 1, 1, none⟩ (.int .i64 0))).heap.size := by simpa using hw
            generalize (W4drewNqnqs2.setCell ⟨w.heap.size + 1 + 1 + 1 + 1 + 1, 0, none⟩ (.int .i64 0)).setCell ⟨w.heap.size + 1 + 1 + 1 + 1 + 1, 1, none⟩ (.int .i64 0) = W4drewNqnqs3 at *
            obtain ⟨-, -, r_rV, q_rV, r_rB, q_rB, r_rA, q_rA, -⟩ := HT.out.rules
            have z_rV : w.heap.size + 1 + 1 + 1 + 1 + 1 < W4drewNqnqs3.heap.size := (HT.out.in_ 1 rfl rfl).2
            have z_rB : w.heap.size + 1 + 1 + 1 + 1 < W4drewNqnqs3.heap.size := (HT.out.in_ 2 rfl rfl).2
            have z_rA : w.heap.size + 1 + 1 + 1 < W4drewNqnqs3.heap.size := (HT.out.in_ 3 rfl rfl).2
            refine bodyPost_ret (v := .tuple #[.agg #[.int .i64 0, .slice none 0 0], .agg #[.int .i64 0, .slice none 0 0], .agg #[.int .i64 0, .int .i64 0], .int .i64 10]) (by simp [results, Try.results18, go_sem, r_rA, r_rB, r_rV]) rfl (by rw [HRF.out]; exact ⟨_, _, rfl, .zero, .zero, HT.out.below⟩)
        · rw [List.take_of_length_le (by omega)] at hany
          have hkk : k = l.length := by omega
          subst hkk
          clear hk hlt
          obtain ⟨T', K'⟩ := HT.out.drewN q
          replace T' : St w.heap.size w ((W4.drewN q)) [.blk W3.heap.size #[.slice R3 l.length c3] 48, .blk (w.heap.size + 1 + 1 + 1 + 1 + 1) #[.int .i64 0, .int .i64 0] 31, .blk (w.heap.size + 1 + 1 + 1 + 1) #[.int .i64 0, .slice none 0 0] 26, .blk (w.heap.size + 1 + 1 + 1) #[.int .i64 0, .slice none 0 0] 26, .blk (w.heap.size + 1 + 1) #[.int .i64 m2, .slice B tt.length d] 26, .blk (w.heap.size + 1) #[.int .i64 v.k, .int .i64 v.n] 31, .blk w.heap.size #[.int .i64 m, .slice A fr.length c] 26] := T'
          replace K' : Keeps W4 [.blk W3.heap.size #[.slice R3 l.length c3] 48, .blk (w.heap.size + 1 + 1 + 1 + 1 + 1) #[.int .i64 0, .int .i64 0] 31, .blk (w.heap.size + 1 + 1 + 1 + 1) #[.int .i64 0, .slice none 0 0] 26, .blk (w.heap.size + 1 + 1 + 1) #[.int .i64 0, .slice none 0 0] 26, .blk (w.heap.size + 1 + 1) #[.int .i64 m2, .slice B tt.length d] 26, .blk (w.heap.size + 1) #[.int .i64 v.k, .int .i64 v.n] 31, .blk w.heap.size #[.int .i64 m, .slice A fr.length c] 26] ((W4.drewN q)) [.blk W3.heap.size #[.slice R3 l.length c3] 48, .blk (w.heap.size + 1 + 1 + 1 + 1 + 1) #[.int .i64 0, .int .i64 0] 31, .blk (w.heap.size + 1 + 1 + 1 + 1) #[.int .i64 0, .slice none 0 0] 26, .blk (w.heap.size + 1 + 1 + 1) #[.int .i64 0, .slice none 0 0] 26, .blk (w.heap.size + 1 + 1) #[.int .i64 m2, .slice B tt.length d] 26, .blk (w.heap.size + 1) #[.int .i64 v.k, .int .i64 v.n] 31, .blk w.heap.size #[.int .i64 m, .slice A fr.length c] 26] := K'
          replace HT := Lib.hid T'
          replace Hr := Lib.hid (Hr.out.move (by decide) K')
          replace Hq := Lib.hid (Hq.out.move (by decide) K')
          replace Hl := Lib.hid (Hl.out.move (by decide) K')
          clear T' K'
          replace hw : w.heap.size + 1 + 1 + 1 + 1 + 1 + 1 ≤ ((W4.drewN q)).heap.size := hw
          clear r_l q_l r_rV q_rV r_rB q_rB r_rA q_rA r_to q_to r_from q_from z_l z_rV z_rB z_rA z_to z_from
          generalize (W4.drewN q) = Wq at *
          obtain ⟨r_l, q_l, r_rV, q_rV, r_rB, q_rB, r_rA, q_rA, r_to, q_to, -, -, r_from, q_from, -⟩ := HT.out.rules
          have z_l : W3.heap.size < Wq.heap.size := (HT.out.in_ 0 rfl rfl).2
          have z_rV : w.heap.size + 1 + 1 + 1 + 1 + 1 < Wq.heap.size := (HT.out.in_ 1 rfl rfl).2
          have z_rB : w.heap.size + 1 + 1 + 1 + 1 < Wq.heap.size := (HT.out.in_ 2 rfl rfl).2
          have z_rA : w.heap.size + 1 + 1 + 1 < Wq.heap.size := (HT.out.in_ 3 rfl rfl).2
          have z_to : w.heap.size + 1 + 1 < Wq.heap.size := (HT.out.in_ 4 rfl rfl).2
          have z_from : w.heap.size < Wq.heap.size := (HT.out.in_ 6 rfl rfl).2
          go_upto_region 10 with fail
          obtain ⟨T', K'⟩ := HT.out.new' #[.int .i64 (tt.length : Int)] 3 Wq.heap.size (by first | (simp; done) | rfl)
          replace T' : St w.heap.size w ((Wq.alloc (.cells #[.int .i64 (tt.length : Int)] 3))) [.blk Wq.heap.size #[.int .i64 (tt.length : Int)] 3, .blk W3.heap.size #[.slice R3 l.length c3] 48, .blk (w.heap.size + 1 + 1 + 1 + 1 + 1) #[.int .i64 0, .int .i64 0] 31, .blk (w.heap.size + 1 + 1 + 1 + 1) #[.int .i64 0, .slice none 0 0] 26, .blk (w.heap.size + 1 + 1 + 1) #[.int .i64 0, .slice none 0 0] 26, .blk (w.heap.size + 1 + 1) #[.int .i64 m2, .slice B tt.length d] 26, .blk (w.heap.size + 1) #[.int .i64 v.k, .int .i64 v.n] 31, .blk w.heap.size #[.int .i64 m, .slice A fr.length c] 26] := T'
          replace K' : Keeps Wq [.blk W3.heap.size #[.slice R3 l.length c3] 48, .blk (w.heap.size + 1 + 1 + 1 + 1 + 1) #[.int .i64 0, .int .i64 0] 31, .blk (w.heap.size + 1 + 1 + 1 + 1) #[.int .i64 0, .slice none 0 0] 26, .blk (w.heap.size + 1 + 1 + 1) #[.int .i64 0, .slice none 0 0] 26, .blk (w.heap.size + 1 + 1) #[.int .i64 m2, .slice B tt.length d] 26, .blk (w.heap.size + 1) #[.int .i64 v.k, .int .i64 v.n] 31, .blk w.heap.size #[.int .i64 m, .slice A fr.length c] 26] ((Wq.alloc (.cells #[.int .i64 (tt.length : Int)] 3))) [.blk Wq.heap.size #[.int .i64 (tt.length : Int)] 3, .blk W3.heap.size #[.slice R3 l.length c3] 48, .blk (w.heap.size + 1 + 1 + 1 + 1 + 1) #[.int .i64 0, .int .i64 0] 31, .blk (w.heap.size + 1 + 1 + 1 + 1) #[.int .i64 0, .slice none 0 0] 26, .blk (w.heap.size + 1 + 1 + 1) #[.int .i64 0, .slice none 0 0] 26, .blk (w.heap.size + 1 + 1) #[.int .i64 m2, .slice B tt.length d] 26, .blk (w.heap.size + 1) #[.int .i64 v.k, .int .i64 v.n] 31, .blk w.heap.size #[.int .i64 m, .slice A fr.length c] 26] := K'
          replace HT := Lib.hid T'
          replace Hr := Lib.hid (Hr.out.move (by decide) K')
          replace Hq := Lib.hid (Hq.out.move (by decide) K')
          replace Hl := Lib.hid (Hl.out.move (by decide) K')
          clear T' K'
          replace hw : w.heap.size + 1 + 1 + 1 + 1 + 1 + 1 ≤ ((Wq.alloc (.cells #[.int .i64 (tt.length : Int)] 3))).heap.size := Nat.le_trans hw (by simp)
          clear r_l q_l r_rV q_rV r_rB q_rB r_rA q_rA r_to q_to r_from q_from z_l z_rV z_rB z_rA z_to z_from
          generalize (Wq.alloc (.cells #[.int .i64 (tt.length : Int)] 3)) = W5 at *
          obtain ⟨r_n, q_n, r_l, q_l, r_rV, q_rV, r_rB, q_rB, r_rA, q_rA, r_to, q_to, -, -, r_from, q_from, -⟩ := HT.out.rules
          have z_n : Wq.heap.size < W5.heap.size := (HT.out.in_ 0 rfl rfl).2
          have z_l : W3.heap.size < W5.heap.size := (HT.out.in_ 1 rfl rfl).2
          have z_rV : w.heap.size + 1 + 1 + 1 + 1 + 1 < W5.heap.size := (HT.out.in_ 2 rfl rfl).2
          have z_rB : w.heap.size + 1 + 1 + 1 + 1 < W5.heap.size := (HT.out.in_ 3 rfl rfl).2
          have z_rA : w.heap.size + 1 + 1 + 1 < W5.heap.size := (HT.out.in_ 4 rfl rfl).2
          have z_to : w.heap.size + 1 + 1 < W5.heap.size := (HT.out.in_ 5 rfl rfl).2
          have z_from : w.heap.size < W5.heap.size := (HT.out.in_ 7 rfl rfl).2
          by_cases hroom : m2 < (tt.length : Int) + (l.length : Int)
          · have hE : transE ⟨m, fr⟩ v ⟨m2, tt⟩ (reachL fr [v]) = 7 := by
              rw [HRL.out]
              unfold transE
              rw [if_neg (by rw [hp1]; decide), if_neg (by rw [hp2]; decide), if_neg (by rw [hany]; decide), if_pos hroom]
            have HRF := Lib.hid (refused 7 hE (by decide))
            clear refused hE hany
            go_wp2_with fail
            clear r_n q_n r_l q_l r_rV q_rV r_rB q_rB r_rA q_rA r_to q_to r_from q_from z_n z_l z_rV z_rB z_rA z_to z_from
            obtain ⟨T', K'⟩ := HT.out.put2 4 (.int .i64 0) (.slice none 0 0) rfl rfl
            replace T' : St w.heap.size w (((W5.setCell ⟨w.heap.size + 1 + 1 + 1, 0, none⟩ (.int .i64 0)).setCell ⟨w.heap.size + 1 + 1 + 1, 1, none⟩ (.slice none 0 0))) [.blk Wq.heap.size #[.int .i64 (tt.length : Int)] 3, .blk W3.heap.size #[.slice R3 l.length c3] 48, .blk (w.heap.size + 1 + 1 + 1 + 1 + 1) #[.int .i64 0, .int .i64 0] 31, .blk (w.heap.size + 1 + 1 + 1 + 1) #[.int .i64 0, .slice none 0 0] 26, .blk (w.heap.size + 1 + 1 + 1) #[.int .i64 0, .slice none 0 0] 26, .blk (w.heap.size + 1 + 1) #[.int .i64 m2, .slice B tt.length d] 26, .blk (w.heap.size + 1) #[.int .i64 v.k, .int .i64 v.n] 31, .blk w.heap.size #[.int .i64 m, .slice A fr.length c] 26] := T'
            replace K' : Keeps W5 [.blk Wq.heap.size #[.int .i64 (tt.length : Int)] 3, .blk W3.heap.size #[.slice R3 l.length c3] 48, .blk (w.heap.size + 1 + 1 + 1 + 1 + 1) #[.int .i64 0, .int .i64 0] 31, .blk (w.heap.size + 1 + 1 + 1 + 1) #[.int .i64 0, .slice none 0 0] 26, .blk (w.heap.size + 1 + 1 + 1) #[.int .i64 0, .slice none 0 0] 26, .blk (w.heap.size + 1 + 1) #[.int .i64 m2, .slice B tt.length d] 26, .blk (w.heap.size + 1) #[.int .i64 v.k, .int .i64 v.n] 31, .blk w.heap.size #[.int .i64 m, .slice A fr.length c] 26] (((W5.setCell ⟨w.heap.size + 1 + 1 + 1, 0, none⟩ (.int .i64 0)).setCell ⟨w.heap.size + 1 + 1 + 1, 1, none⟩ (.slice none 0 0))) [.blk Wq.heap.size #[.int .i64 (tt.length : Int)] 3, .blk W3.heap.size #[.slice R3 l.length c3] 48, .blk (w.heap.size + 1 + 1 + 1 + 1 + 1) #[.int .i64 0, .int .i64 0] 31, .blk (w.heap.size + 1 + 1 + 1 + 1) #[.int .i64 0, .slice none 0 0] 26, .blk (w.heap.size + 1 + 1 + 1) #[.int .i64 0, .slice none 0 0] 26, .blk (w.heap.size + 1 + 1) #[.int .i64 m2, .slice B tt.length d] 26, .blk (w.heap.size + 1) #[.int .i64 v.k, .int .i64 v.n] 31, .blk w.heap.size #[.int .i64 m, .slice A fr.length c] 26] := K'
            replace HT := Lib.hid T'
            replace Hr := Lib.hid (Hr.out.move (by decide) K')
            replace Hq := Lib.hid (Hq.out.move (by decide) K')
            replace Hl := Lib.hid (Hl.out.move (by decide) K')
            clear T' K'
            replace hw : w.heap.size + 1 + 1 + 1 + 1 + 1 + 1 ≤ (((W5.setCell ⟨w.heap.size + 1 + 1 + 1, 0, none⟩ (.int .i64 0)).setCell ⟨w.heap.size + 1 + 1 + 1, 1, none⟩ (.slice none 0 0))).heap.size := by simpa using hw
            generalize (W5.setCell ⟨w.heap.size + 1 + 1 + 1, 0, none⟩ (.int .i64 0)).setCell ⟨w.heap.size + 1 + 1 + 1, 1, none⟩ (.slice none 0 0) = W5s1 at *
            obtain ⟨T', K'⟩ := HT.out.put2 3 (.int .i64 0) (.slice none 0 0) rfl rfl
            replace T' : St w.heap.size w (((W5s1.setCell ⟨w.heap.size + 1 + 1 + 1 + 1, 0, none⟩ (.int .i64 0)).setCell ⟨w.heap.size + 1 + 1 + 1 + 1, 1, none⟩ (.slice none 0 0))) [.blk Wq.heap.size #[.int .i64 (tt.length : Int)] 3, .blk W3.heap.size #[.slice R3 l.length c3] 48, .blk (w.heap.size + 1 + 1 + 1 + 1 + 1) #[.int .i64 0, .int .i64 0] 31, .blk (w.heap.size + 1 + 1 + 1 + 1) #[.int .i64 0, .slice none 0 0] 26, .blk (w.heap.size + 1 + 1 + 1) #[.int .i64 0, .slice none 0 0] 26, .blk (w.heap.size + 1 + 1) #[.int .i64 m2, .slice B tt.length d] 26, .blk (w.heap.size + 1) #[.int .i64 v.k, .int .i64 v.n] 31, .blk w.heap.size #[.int .i64 m, .slice A fr.length c] 26] := T'
            replace K' : Keeps W5s1 [.blk Wq.heap.size #[.int .i64 (tt.length : Int)] 3, .blk W3.heap.size #[.slice R3 l.length c3] 48, .blk (w.heap.size + 1 + 1 + 1 + 1 + 1) #[.int .i64 0, .int .i64 0] 31, .blk (w.heap.size + 1 + 1 + 1 + 1) #[.int .i64 0, .slice none 0 0] 26, .blk (w.heap.size + 1 + 1 + 1) #[.int .i64 0, .slice none 0 0] 26, .blk (w.heap.size + 1 + 1) #[.int .i64 m2, .slice B tt.length d] 26, .blk (w.heap.size + 1) #[.int .i64 v.k, .int .i64 v.n] 31, .blk w.heap.size #[.int .i64 m, .slice A fr.length c] 26] (((W5s1.setCell ⟨w.heap.size + 1 + 1 + 1 + 1, 0, none⟩ (.int .i64 0)).setCell ⟨w.heap.size + 1 + 1 + 1 + 1, 1, none⟩ (.slice none 0 0))) [.blk Wq.heap.size #[.int .i64 (tt.length : Int)] 3, .blk W3.heap.size #[.slice R3 l.length c3] 48, .blk (w.heap.size + 1 + 1 + 1 + 1 + 1) #[.int .i64 0, .int .i64 0] 31, .blk (w.heap.size + 1 + 1 + 1 + 1) #[.int .i64 0, .slice none 0 0] 26, .blk (w.heap.size + 1 + 1 + 1) #[.int .i64 0, .slice none 0 0] 26, .blk (w.heap.size + 1 + 1) #[.int .i64 m2, .slice B tt.length d] 26, .blk (w.heap.size + 1) #[.int .i64 v.k, .int .i64 v.n] 31, .blk w.heap.size #[.int .i64 m, .slice A fr.length c] 26] := K'
            replace HT := Lib.hid T'
            replace Hr := Lib.hid (Hr.out.move (by decide) K')
            replace Hq := Lib.hid (Hq.out.move (by decide) K')
            replace Hl := Lib.hid (Hl.out.move (by decide) K')
            clear T' K'
            replace hw : w.heap.size + 1 + 1 + 1 + 1 + 1 + 1 ≤ (((W5s1.setCell ⟨w.heap.size + 1 + 1 + 1 + 1, 0, none⟩ (.int .i64 0)).setCell ⟨w.heap.size + 1 + 1 + 1 + 1, 1, none⟩ (.slice none 0 0))).heap.size := by simpa using hw
            generalize (W5s1.setCell ⟨w.heap.size + 1 + 1 + 1 + 1, 0, none⟩ (.int .i64 0)).setCell ⟨w.heap.size + 1 + 1 + 1 + 1, 1, none⟩ (.slice none 0 0) = W5s2 at *
            obtain ⟨T', K'⟩ := HT.out.put2 2 (.int .i64 0) (.int .i64 0) rfl rfl
            replace T' : St w.heap.size w (((W5s2.setCell ⟨w.heap.size + 1 + 1 + 1 + 1 + 1, 0, none⟩ (.int .i64 0)).setCell ⟨w.heap.size + 1 + 1 + 1 + 1 + 1, 1, none⟩ (.int .i64 0))) [.blk Wq.heap.size #[.int .i64 (tt.length : Int)] 3, .blk W3.heap.size #[.slice R3 l.length c3] 48, .blk (w.heap.size + 1 + 1 + 1 + 1 + 1) #[.int .i64 0, .int .i64 0] 31, .blk (w.heap.size + 1 + 1 + 1 + 1) #[.int .i64 0, .slice none 0 0] 26, .blk (w.heap.size + 1 + 1 + 1) #[.int .i64 0, .slice none 0 0] 26, .blk (w.heap.size + 1 + 1) #[.int .i64 m2, .slice B tt.length d] 26, .blk (w.heap.size + 1) #[.int .i64 v.k, .int .i64 v.n] 31, .blk w.heap.size #[.int .i64 m, .slice A fr.length c] 26] := T'
            replace K' : Keeps W5s2 [.blk Wq.heap.size #[.int .i64 (tt.length : Int)] 3, .blk W3.heap.size #[.slice R3 l.length c3] 48, .blk (w.heap.size + 1 + 1 + 1 + 1 + 1) #[.int .i64 0, .int .i64 0] 31, .blk (w.heap.size + 1 + 1 + 1 + 1) #[.int .i64 0, .slice none 0 0] 26, .blk (w.heap.size + 1 + 1 + 1) #[.int .i64 0, .slice none 0 0] 26, .blk (w.heap.size + 1 + 1) #[.int .i64 m2, .slice B tt.length d] 26, .blk (w.heap.size + 1) #[.int .i64 v.k, .int .i64 v.n] 31, .blk w.heap.size #[.int .i64 m, .slice A fr.length c] 26] (((W5s2.setCell ⟨w.heap.size + 1 + 1 + 1 + 1 + 1, 0, none⟩ (.int .i64 0)).setCell ⟨w.heap.size + 1 + 1 + 1 + 1 + 1, 1, none⟩ (.int .i64 0))) [.blk Wq.heap.size #[.int .i64 (tt.length : Int)] 3, .blk W3.heap.size #[.slice R3 l.length c3] 48, .blk (w.heap.size + 1 + 1 + 1 + 1 + 1) #[.int .i64 0, .int .i64 0] 31, .blk (w.heap.size + 1 + 1 + 1 + 1) #[.int .i64 0, .slice none 0 0] 26, .blk (w.heap.size + 1 + 1 + 1) #[.int .i64 0, .slice none 0 0] 26, .blk (w.heap.size + 1 + 1) #[.int .i64 m2, .slice B tt.length d] 26, .blk (w.heap.size + 1) #[.int .i64 v.k, .int .i64 v.n] 31, .blk w.heap.size #[.int .i64 m, .slice A fr.length c] 26] := K'
            replace HT := Lib.hid T'
            replace Hr := Lib.hid (Hr.out.move (by decide) K')
            replace Hq := Lib.hid (Hq.out.move (by decide) K')
            replace Hl := Lib.hid (Hl.out.move (by decide) K')
            clear T' K'
            replace hw : w.heap.size + 1 + 1 + 1 + 1 + 1 + 1 ≤ (((W5s2.setCell ⟨w.heap.size + 1 + 1 + 1 + 1 + 1, 0, none⟩ (.int .i64 0)).setCell ⟨w.heap.size + 1 + 1 + 1 + 1 + 1, 1, none⟩ (.int .i64 0))).heap.size := by simpa using hw
            generalize (W5s2.setCell ⟨w.heap.size + 1 + 1 + 1 + 1 + 1, 0, none⟩ (.int .i64 0)).setCell ⟨w.heap.size + 1 + 1 + 1 + 1 + 1, 1, none⟩ (.int .i64 0) = W5s3 at *
            obtain ⟨-, -, -, -, r_rV, q_rV, r_rB, q_rB, r_rA, q_rA, -⟩ := HT.out.rules
            have z_rV : w.heap.size + 1 + 1 + 1 + 1 + 1 < W5s3.heap.size := (HT.out.in_ 2 rfl rfl).2
            have z_rB : w.heap.size + 1 + 1 + 1 + 1 < W5s3.heap.size := (HT.out.in_ 3 rfl rfl).2
            have z_rA : w.heap.size + 1 + 1 + 1 < W5s3.heap.size := (HT.out.in_ 4 rfl rfl).2
            refine bodyPost_ret (v := .tuple #[.agg #[.int .i64 0, .slice none 0 0], .agg #[.int .i64 0, .slice none 0 0], .agg #[.int .i64 0, .int .i64 0], .int .i64 7]) (by simp [results, Try.results18, go_sem, r_rA, r_rB, r_rV]) rfl (by rw [HRF.out]; exact ⟨_, _, rfl, .zero, .zero, HT.out.below⟩)
          · have hE : transE ⟨m, fr⟩ v ⟨m2, tt⟩ (reachL fr [v]) = 0 := by
              rw [HRL.out]
              unfold transE
              rw [if_neg (by rw [hp1]; decide), if_neg (by rw [hp2]; decide), if_neg (by rw [hany]; decide), if_neg hroom]
            have hpost : TransD w ⟨m, fr⟩ v ⟨m2, tt⟩ (reachL fr [v]) move = fun en w' => ∃ u1 u2, en = .returned (.tuple #[u1, u2, .agg #[.int .i64 (newV (plM tt.length l) v).k, .int .i64 (newV (plM tt.length l) v).n], .int .i64 0]) ∧ RdH w' w.heap.size u1 ⟨m, movedL fr (if move then l else [])⟩ ∧ RdH w' w.heap.size u2 ⟨m2, partC fr tt l l.length⟩ ∧ Below w.heap.size w w' := by
              funext en w'
              unfold TransD transFrom transTo transV
              rw [if_pos hE, if_pos hE, if_pos hE, hE, HRL.out]
            have HP := Lib.hid hpost
            clear refused hE hpost
            have h13 : (tt.length : Int) + (l.length : Int) ≤ m2 := by omega
            clear hany hroom hp1 hp2
            go_wp2_with fail
            refine (heapCopy_any m _ A c fr _ Hr.out).mono ?_
            rintro e W6 ⟨v6, vs6, rfl, hsep, -, hb⟩
            obtain ⟨A6, c6, rfl⟩ := own_form hsep.row
            have hvl6 := hsep.len
            clear r_n q_n r_l q_l r_rV q_rV r_rB q_rB r_rA q_rA r_to q_to r_from q_from z_n z_l z_rV z_rB z_rA z_to z_from
            obtain ⟨T', K', hh⟩ := HT.out.heapMade hb hsep (n := w.heap.size) (by omega)
            replace HT := Lib.hid T'
            have HF := Lib.hid hh
            replace Hr := Lib.hid (Hr.out.move (by decide) K')
            replace Hq := Lib.hid (Hq.out.move (by decide) K')
            replace Hl := Lib.hid (Hl.out.move (by decide) K')
            replace hw : w.heap.size + 1 + 1 + 1 + 1 + 1 + 1 ≤ W6.heap.size := Nat.le_trans hw hb.size
            clear T' K' hh hb hsep
            obtain ⟨r_n, q_n, r_l, q_l, -, -, -, -, -, -, r_to, q_to, -, -, r_from, q_from, -⟩ := HT.out.rules
            have z_n : Wq.heap.size < W6.heap.size := (HT.out.in_ 1 rfl rfl).2
            have z_l : W3.heap.size < W6.heap.size := (HT.out.in_ 2 rfl rfl).2
            have z_to : w.heap.size + 1 + 1 < W6.heap.size := (HT.out.in_ 6 rfl rfl).2
            have z_from : w.heap.size < W6.heap.size := (HT.out.in_ 8 rfl rfl).2
            go_upto_region 13 with fail
            obtain ⟨T', K'⟩ := HT.out.new' #[.int .i64 m, .slice A6 fr.length c6] 26 W6.heap.size (by first | (simp; done) | rfl)
            replace T' : St w.heap.size w ((W6.alloc (.cells #[.int .i64 m, .slice A6 fr.length c6] 26))) [.blk W6.heap.size #[.int .i64 m, .slice A6 fr.length c6] 26, .row w.heap.size 41 2 (.slice A6 fr.length c6) fr.length (cat (rowsOf vs6 fr)), .blk Wq.heap.size #[.int .i64 (tt.length : Int)] 3, .blk W3.heap.size #[.slice R3 l.length c3] 48, .blk (w.heap.size + 1 + 1 + 1 + 1 + 1) #[.int .i64 0, .int .i64 0] 31, .blk (w.heap.size + 1 + 1 + 1 + 1) #[.int .i64 0, .slice none 0 0] 26, .blk (w.heap.size + 1 + 1 + 1) #[.int .i64 0, .slice none 0 0] 26, .blk (w.heap.size + 1 + 1) #[.int .i64 m2, .slice B tt.length d] 26, .blk (w.heap.size + 1) #[.int .i64 v.k, .int .i64 v.n] 31, .blk w.heap.size #[.int .i64 m, .slice A fr.length c] 26] := T'
            replace K' : Keeps W6 [.row w.heap.size 41 2 (.slice A6 fr.length c6) fr.length (cat (rowsOf vs6 fr)), .blk Wq.heap.size #[.int .i64 (tt.length : Int)] 3, .blk W3.heap.size #[.slice R3 l.length c3] 48, .blk (w.heap.size + 1 + 1 + 1 + 1 + 1) #[.int .i64 0, .int .i64 0] 31, .blk (w.heap.size + 1 + 1 + 1 + 1) #[.int .i64 0, .slice none 0 0] 26, .blk (w.heap.size + 1 + 1 + 1) #[.int .i64 0, .slice none 0 0] 26, .blk (w.heap.size + 1 + 1) #[.int .i64 m2, .slice B tt.length d] 26, .blk (w.heap.size + 1) #[.int .i64 v.k, .int .i64 v.n] 31, .blk w.heap.size #[.int .i64 m, .slice A fr.length c] 26] ((W6.alloc (.cells #[.int .i64 m, .slice A6 fr.length c6] 26))) [.blk W6.heap.size #[.int .i64 m, .slice A6 fr.length c6] 26, .row w.heap.size 41 2 (.slice A6 fr.length c6) fr.length (cat (rowsOf vs6 fr)), .blk Wq.heap.size #[.int .i64 (tt.length : Int)] 3, .blk W3.heap.size #[.slice R3 l.length c3] 48, .blk (w.heap.size + 1 + 1 + 1 + 1 + 1) #[.int .i64 0, .int .i64 0] 31, .blk (w.heap.size + 1 + 1 + 1 + 1) #[.int .i64 0, .slice none 0 0] 26, .blk (w.heap.size + 1 + 1 + 1) #[.int .i64 0, .slice none 0 0] 26, .blk (w.heap.size + 1 + 1) #[.int .i64 m2, .slice B tt.length d] 26, .blk (w.heap.size + 1) #[.int .i64 v.k, .int .i64 v.n] 31, .blk w.heap.size #[.int .i64 m, .slice A fr.length c] 26] := K'
            replace HT := Lib.hid T'
            replace Hr := Lib.hid (Hr.out.move (by decide) K')
            replace Hq := Lib.hid (Hq.out.move (by decide) K')
            replace Hl := Lib.hid (Hl.out.move (by decide) K')
            replace HF := Lib.hid (HF.out.move K')
            clear T' K'
            replace hw : w.heap.size + 1 + 1 + 1 + 1 + 1 + 1 ≤ ((W6.alloc (.cells #[.int .i64 m, .slice A6 fr.length c6] 26))).heap.size := Nat.le_trans hw (by simp)
            clear r_n q_n r_l q_l r_to q_to r_from q_from z_n z_l z_to z_from
            generalize (W6.alloc (.cells #[.int .i64 m, .slice A6 fr.length c6] 26)) = V6 at *
            obtain ⟨-, -, r_n, q_n, r_l, q_l, -, -, -, -, -, -, r_to, q_to, -, -, r_from, q_from, -⟩ := HT.out.rules
            have z_n : Wq.heap.size < V6.heap.size := (HT.out.in_ 2 rfl rfl).2
            have z_l : W3.heap.size < V6.heap.size := (HT.out.in_ 3 rfl rfl).2
            have z_to : w.heap.size + 1 + 1 < V6.heap.size := (HT.out.in_ 7 rfl rfl).2
            have z_from : w.heap.size < V6.heap.size := (HT.out.in_ 9 rfl rfl).2
            go_wp2_with fail
            refine (heapCopy_any m2 _ B d tt _ Hq.out).mono ?_
            rintro e W7 ⟨v7, vs7, rfl, hsep, -, hb⟩
            obtain ⟨A7, c7, rfl⟩ := own_form hsep.row
            have hvl7 := hsep.len
            clear r_n q_n r_l q_l r_to q_to r_from q_from z_n z_l z_to z_from
            obtain ⟨T', K', hh⟩ := HT.out.heapMade hb hsep (n := w.heap.size) (by omega)
            replace HT := Lib.hid T'
            have HTt := Lib.hid hh
            replace Hr := Lib.hid (Hr.out.move (by decide) K')
            replace Hq := Lib.hid (Hq.out.move (by decide) K')
            replace Hl := Lib.hid (Hl.out.move (by decide) K')
            replace HF := Lib.hid (HF.out.move K')
            replace hw : w.heap.size + 1 + 1 + 1 + 1 + 1 + 1 ≤ W7.heap.size := Nat.le_trans hw hb.size
            clear T' K' hh hb hsep
            obtain ⟨-, -, r_n, q_n, r_l, q_l, -, -, -, -, -, -, r_to, q_to, -, -, r_from, q_from, -⟩ := HT.out.rules
            have z_n : Wq.heap.size < W7.heap.size := (HT.out.in_ 3 rfl rfl).2
            have z_l : W3.heap.size < W7.heap.size := (HT.out.in_ 4 rfl rfl).2
            have z_to : w.heap.size + 1 + 1 < W7.heap.size := (HT.out.in_ 8 rfl rfl).2
            have z_from : w.heap.size < W7.heap.size := (HT.out.in_ 10 rfl rfl).2
            go_upto_region 14 with fail
            obtain ⟨T', K'⟩ := HT.out.new' #[.int .i64 m2, .slice A7 tt.length c7] 26 W7.heap.size (by first | (simp; done) | rfl)
            replace T' : St w.heap.size w ((W7.alloc (.cells #[.int .i64 m2, .slice A7 tt.length c7] 26))) [.blk W7.heap.size #[.int .i64 m2, .slice A7 tt.length c7] 26, .row w.heap.size 41 2 (.slice A7 tt.length c7) tt.length (cat (rowsOf vs7 tt)), .blk W6.heap.size #[.int .i64 m, .slice A6 fr.length c6] 26, .row w.heap.size 41 2 (.slice A6 fr.length c6) fr.length (cat (rowsOf vs6 fr)), .blk Wq.heap.size #[.int .i64 (tt.length : Int)] 3, .blk W3.heap.size #[.slice R3 l.length c3] 48, .blk (w.heap.size + 1 + 1 + 1 + 1 + 1) #[.int .i64 0, .int .i64 0] 31, .blk (w.heap.size + 1 + 1 + 1 + 1) #[.int .i64 0, .slice none 0 0] 26, .blk (w.heap.size + 1 + 1 + 1) #[.int .i64 0, .slice none 0 0] 26, .blk (w.heap.size + 1 + 1) #[.int .i64 m2, .slice B tt.length d] 26, .blk (w.heap.size + 1) #[.int .i64 v.k, .int .i64 v.n] 31, .blk w.heap.size #[.int .i64 m, .slice A fr.length c] 26] := T'
            replace K' : Keeps W7 [.row w.heap.size 41 2 (.slice A7 tt.length c7) tt.length (cat (rowsOf vs7 tt)), .blk W6.heap.size #[.int .i64 m, .slice A6 fr.length c6] 26, .row w.heap.size 41 2 (.slice A6 fr.length c6) fr.length (cat (rowsOf vs6 fr)), .blk Wq.heap.size #[.int .i64 (tt.length : Int)] 3, .blk W3.heap.size #[.slice R3 l.length c3] 48, .blk (w.heap.size + 1 + 1 + 1 + 1 + 1) #[.int .i64 0, .int .i64 0] 31, .blk (w.heap.size + 1 + 1 + 1 + 1) #[.int .i64 0, .slice none 0 0] 26, .blk (w.heap.size + 1 + 1 + 1) #[.int .i64 0, .slice none 0 0] 26, .blk (w.heap.size + 1 + 1) #[.int .i64 m2, .slice B tt.length d] 26, .blk (w.heap.size + 1) #[.int .i64 v.k, .int .i64 v.n] 31, .blk w.heap.size #[.int .i64 m, .slice A fr.length c] 26] ((W7.alloc (.cells #[.int .i64 m2, .slice A7 tt.length c7] 26))) [.blk W7.heap.size #[.int .i64 m2, .slice A7 tt.length c7] 26, .row w.heap.size 41 2 (.slice A7 tt.length c7) tt.length (cat (rowsOf vs7 tt)), .blk W6.heap.size #[.int .i64 m, .slice A6 fr.length c6] 26, .row w.heap.size 41 2 (.slice A6 fr.length c6) fr.length (cat (rowsOf vs6 fr)), .blk Wq.heap.size #[.int .i64 (tt.length : Int)] 3, .blk W3.heap.size #[.slice R3 l.length c3] 48, .blk (w.heap.size + 1 + 1 + 1 + 1 + 1) #[.int .i64 0, .int .i64 0] 31, .blk (w.heap.size + 1 + 1 + 1 + 1) #[.int .i64 0, .slice none 0 0] 26, .blk (w.heap.size + 1 + 1 + 1) #[.int .i64 0, .slice none 0 0] 26, .blk (w.heap.size + 1 + 1) #[.int .i64 m2, .slice B tt.length d] 26, .blk (w.heap.size + 1) #[.int .i64 v.k, .int .i64 v.n] 31, .blk w.heap.size #[.int .i64 m, .slice A fr.length c] 26] := K'
            replace HT := Lib.hid T'
            replace Hr := Lib.hid (Hr.out.move (by decide) K')
            replace Hq := Lib.hid (Hq.out.move (by decide) K')
            replace Hl := Lib.hid (Hl.out.move (by decide) K')
            replace HF := Lib.hid (HF.out.move K')
            replace HTt := Lib.hid (HTt.out.move K')
            clear T' K'
            replace hw : w.heap.size + 1 + 1 + 1 + 1 + 1 + 1 ≤ ((W7.alloc (.cells #[.int .i64 m2, .slice A7 tt.length c7] 26))).heap.size := Nat.le_trans hw (by simp)
            clear r_n q_n r_l q_l r_to q_to r_from q_from z_n z_l z_to z_from
            generalize (W7.alloc (.cells #[.int .i64 m2, .slice A7 tt.length c7] 26)) = V7 at *
            obtain ⟨-, -, -, -, r_n, q_n, r_l, q_l, -, -, -, -, -, -, r_to, q_to, -, -, r_from, q_from, -⟩ := HT.out.rules
            have z_n : Wq.heap.size < V7.heap.size := (HT.out.in_ 4 rfl rfl).2
            have z_l : W3.heap.size < V7.heap.size := (HT.out.in_ 5 rfl rfl).2
            have z_to : w.heap.size + 1 + 1 < V7.heap.size := (HT.out.in_ 9 rfl rfl).2
            have z_from : w.heap.size < V7.heap.size := (HT.out.in_ 11 rfl rfl).2
            go_wp2_with fail
            have hz : W7.heap.size + 1 ≤ V7.heap.size := by have h := (HT.out.in_ 0 rfl rfl).2; omega
            clear Hq
            clear r_n q_n r_l q_l r_to q_to r_from q_from z_n z_l z_to z_from
            go_loopw [18] (fun i wr => ∃ (k : Nat) (vr : Value) (css dss : List (List Value)), k ≤ l.length ∧ i = .int .i64 k ∧ St w.heap.size w wr [.blk W7.heap.size #[.int .i64 m2, vr] 26, .row w.heap.size 41 2 vr (tt.length + k) (cat css), .blk W6.heap.size #[.int .i64 m, .slice A6 fr.length c6] 26, .row w.heap.size 41 2 (.slice A6 fr.length c6) fr.length (cat dss), .blk Wq.heap.size #[.int .i64 (tt.length : Int)] 3, .blk W3.heap.size #[.slice R3 l.length c3] 48, .blk (w.heap.size + 1 + 1 + 1 + 1 + 1) #[.int .i64 0, .int .i64 0] 31, .blk (w.heap.size + 1 + 1 + 1 + 1) #[.int .i64 0, .slice none 0 0] 26, .blk (w.heap.size + 1 + 1 + 1) #[.int .i64 0, .slice none 0 0] 26, .blk (w.heap.size + 1 + 1) #[.int .i64 m2, .slice B tt.length d] 26, .blk (w.heap.size + 1) #[.int .i64 v.k, .int .i64 v.n] 31, .blk w.heap.size #[.int .i64 m, .slice A fr.length c] 26] ∧ Held obE wr (Fr w.heap.size [.blk W7.heap.size #[.int .i64 m2, vr] 26, .row w.heap.size 41 2 vr (tt.length + k) (cat css), .blk W6.heap.size #[.int .i64 m, .slice A6 fr.length c6] 26, .row w.heap.size 41 2 (.slice A6 fr.length c6) fr.length (cat dss), .blk Wq.heap.size #[.int .i64 (tt.length : Int)] 3, .blk W3.heap.size #[.slice R3 l.length c3] 48, .blk (w.heap.size + 1 + 1 + 1 + 1 + 1) #[.int .i64 0, .int .i64 0] 31, .blk (w.heap.size + 1 + 1 + 1 + 1) #[.int .i64 0, .slice none 0 0] 26, .blk (w.heap.size + 1 + 1 + 1) #[.int .i64 0, .slice none 0 0] 26, .blk (w.heap.size + 1 + 1) #[.int .i64 m2, .slice B tt.length d] 26, .blk (w.heap.size + 1) #[.int .i64 v.k, .int .i64 v.n] 31, .blk w.heap.size #[.int .i64 m, .slice A fr.length c] 26]) css (carr fr tt l k) ∧ Held obE wr (Fr w.heap.size [.blk W7.heap.size #[.int .i64 m2, vr] 26, .row w.heap.size 41 2 vr (tt.length + k) (cat css), .blk W6.heap.size #[.int .i64 m, .slice A6 fr.length c6] 26, .row w.heap.size 41 2 (.slice A6 fr.length c6) fr.length (cat dss), .blk Wq.heap.size #[.int .i64 (tt.length : Int)] 3, .blk W3.heap.size #[.slice R3 l.length c3] 48, .blk (w.heap.size + 1 + 1 + 1 + 1 + 1) #[.int .i64 0, .int .i64 0] 31, .blk (w.heap.size + 1 + 1 + 1 + 1) #[.int .i64 0, .slice none 0 0] 26, .blk (w.heap.size + 1 + 1 + 1) #[.int .i64 0, .slice none 0 0] 26, .blk (w.heap.size + 1 + 1) #[.int .i64 m2, .slice B tt.length d] 26, .blk (w.heap.size + 1) #[.int .i64 v.k, .int .i64 v.n] 31, .blk w.heap.size #[.int .i64 m, .slice A fr.length c] 26]) dss (movedL fr (if move then l.take k else [])) ∧ RdSl obE wr (Fr 0 [.blk W7.heap.size #[.int .i64 m2, vr] 26, .row w.heap.size 41 2 vr (tt.length + k) (cat css), .blk W6.heap.size #[.int .i64 m, .slice A6 fr.length c6] 26, .row w.heap.size 41 2 (.slice A6 fr.length c6) fr.length (cat dss), .blk Wq.heap.size #[.int .i64 (tt.length : Int)] 3, .blk W3.heap.size #[.slice R3 l.length c3] 48, .blk (w.heap.size + 1 + 1 + 1 + 1 + 1) #[.int .i64 0, .int .i64 0] 31, .blk (w.heap.size + 1 + 1 + 1 + 1) #[.int .i64 0, .slice none 0 0] 26, .blk (w.heap.size + 1 + 1 + 1) #[.int .i64 0, .slice none 0 0] 26, .blk (w.heap.size + 1 + 1) #[.int .i64 m2, .slice B tt.length d] 26, .blk (w.heap.size + 1) #[.int .i64 v.k, .int .i64 v.n] 31, .blk w.heap.size #[.int .i64 m, .slice A fr.length c] 26]) (.slice A fr.length c) fr ∧ RdSl iE wr (Fr 0 [.blk W7.heap.size #[.int .i64 m2, vr] 26, .row w.heap.size 41 2 vr (tt.length + k) (cat css), .blk W6.heap.size #[.int .i64 m, .slice A6 fr.length c6] 26, .row w.heap.size 41 2 (.slice A6 fr.length c6) fr.length (cat dss), .blk Wq.heap.size #[.int .i64 (tt.length : Int)] 3, .blk W3.heap.size #[.slice R3 l.length c3] 48, .blk (w.heap.size + 1 + 1 + 1 + 1 + 1) #[.int .i64 0, .int .i64 0] 31, .blk (w.heap.size + 1 + 1 + 1 + 1) #[.int .i64 0, .slice none 0 0] 26, .blk (w.heap.size + 1 + 1 + 1) #[.int .i64 0, .slice none 0 0] 26, .blk (w.heap.size + 1 + 1) #[.int .i64 m2, .slice B tt.length d] 26, .blk (w.heap.size + 1) #[.int .i64 v.k, .int .i64 v.n] 31, .blk w.heap.size #[.int .i64 m, .slice A fr.length c] 26]) (.slice R3 l.length c3) l ∧ W7.heap.size + 1 ≤ wr.heap.size ∧ w.heap.size + 1 + 1 + 1 + 1 + 1 + 1 ≤ wr.heap.size) (fun i _ => l.length - (intOf i).toNat)
            case atStart =>
              refine ⟨0, .slice A7 tt.length c7, rowsOf vs7 tt, rowsOf vs6 fr, Nat.zero_le _, rfl, ?_, ?_, ?_, Hr.out, Hl.out, hz, hw⟩
              · exact HT.out
              · rw [carr_zero]; exact HTt.out
              · have e0 : movedL fr (if move then l.take 0 else []) = fr := by cases move <;> simp [movedL_nil]
                rw [e0]; exact HF.out
            case round =>
              generalize wr = wq at *
              clear HT HF HTt Hl Hr hz hw
              obtain ⟨k, vr, css, dss, hk, rfl, ht, htt, hf, hr, hl, hz, hw⟩ := hrel
              have HT := Lib.hid ht
              have HTt := Lib.hid htt
              have HF := Lib.hid hf
              have Hl := Lib.hid hl
              have Hr := Lib.hid hr
              clear ht htt hf hl hr
              by_cases hlt : k < l.length
              · obtain ⟨x, hx⟩ : ∃ x, l[k]? = some x := ⟨l[k], List.getElem?_eq_getElem hlt⟩
                have hxw := Htold.out.within x (List.mem_of_getElem? hx)
                obtain ⟨j, rfl⟩ : ∃ j : Nat, x = (j : Int) := ⟨x.toNat, by omega⟩
                obtain ⟨b, o, rfl, _, zb, y0⟩ := Hl.out.at_i hx
                have hjl : j < fr.length := by omega
                have hob : fr[j]? = some fr[j] := List.getElem?_eq_getElem hjl
                obtain ⟨pb, po, Bf, df, rfl, _, zpb, y1, _, hfd⟩ := Hr.out.at_o hob
                have hfo : fieldsOf fr (j : Int) = (fr[j]).fields := by simp [fieldsOf, hob]
                generalize fr[j] = ob at *
                have HX := Lib.hid hx
                have Hob := Lib.hid hob
                have Hfo := Lib.hid hfo
                have Hin := Lib.hid (fun x (h : x ∈ ob.fields) => Hshut.out (j : Int) (List.mem_of_getElem? hx) x (by rw [hfo]; exact h))
                obtain ⟨-, hf1, hf2, hf3⟩ := hfd.lims
                have hf4 : ob.fields.length * 16 ≤ 140737488355328 := hf3
                clear hx hob hfd hfo hf3
                have i1 : (0 : Int) ≤ (k : Int) := by omega
                have i2 : (k : Int) < (l.length : Int) := by omega
                have i3 : (0 : Int) ≤ (j : Int) := by omega
                have i4 : (j : Int) < (fr.length : Int) := by omega
                obtain ⟨Av, cv, rfl⟩ := own_form (HT.out.own 1 rfl)
                obtain ⟨r_b, q_b, -, -, -, -, r_l, q_l, -, -, -, -, -, -, -, -, -, -, r_from, q_from, -⟩ := HT.out.rules
                have z_b : W7.heap.size < wq.heap.size := (HT.out.in_ 0 rfl rfl).2
                have z_l : W3.heap.size < wq.heap.size := (HT.out.in_ 5 rfl rfl).2
                have z_from : w.heap.size < wq.heap.size := (HT.out.in_ 11 rfl rfl).2
                have hzq := hz
                go_upto_region 19 with fail
                obtain ⟨T', K'⟩ := HT.out.new' #[.slice none 0 0, .bool false] 41 wq.heap.size (by first | (simp; done) | rfl)
                replace T' : St w.heap.size w ((wq.alloc (.cells #[.slice none 0 0, .bool false] 41))) [.blk wq.heap.size #[.slice none 0 0, .bool false] 41, .blk W7.heap.size #[.int .i64 m2, .slice Av (tt.length + k) cv] 26, .row w.heap.size 41 2 (.slice Av (tt.length + k) cv) (tt.length + k) (cat css), .blk W6.heap.size #[.int .i64 m, .slice A6 fr.length c6] 26, .row w.heap.size 41 2 (.slice A6 fr.length c6) fr.length (cat dss), .blk Wq.heap.size #[.int .i64 (tt.length : Int)] 3, .blk W3.heap.size #[.slice (some ⟨b, o, none⟩) l.length c3] 48, .blk (w.heap.size + 1 + 1 + 1 + 1 + 1) #[.int .i64 0, .int .i64 0] 31, .blk (w.heap.size + 1 + 1 + 1 + 1) #[.int .i64 0, .slice none 0 0] 26, .blk (w.heap.size + 1 + 1 + 1) #[.int .i64 0, .slice none 0 0] 26, .blk (w.heap.size + 1 + 1) #[.int .i64 m2, .slice B tt.length d] 26, .blk (w.heap.size + 1) #[.int .i64 v.k, .int .i64 v.n] 31, .blk w.heap.size #[.int .i64 m, .slice (some ⟨pb, po, none⟩) fr.length c] 26] := T'
                replace K' : Keeps wq [.blk W7.heap.size #[.int .i64 m2, .slice Av (tt.length + k) cv] 26, .row w.heap.size 41 2 (.slice Av (tt.length + k) cv) (tt.length + k) (cat css), .blk W6.heap.size #[.int .i64 m, .slice A6 fr.length c6] 26, .row w.heap.size 41 2 (.slice A6 fr.length c6) fr.length (cat dss), .blk Wq.heap.size #[.int .i64 (tt.length : Int)] 3, .blk W3.heap.size #[.slice (some ⟨b, o, none⟩) l.length c3] 48, .blk (w.heap.size + 1 + 1 + 1 + 1 + 1) #[.int .i64 0, .int .i64 0] 31, .blk (w.heap.size + 1 + 1 + 1 + 1) #[.int .i64 0, .slice none 0 0] 26, .blk (w.heap.size + 1 + 1 + 1) #[.int .i64 0, .slice none 0 0] 26, .blk (w.heap.size + 1 + 1) #[.int .i64 m2, .slice B tt.length d] 26, .blk (w.heap.size + 1) #[.int .i64 v.k, .int .i64 v.n] 31, .blk w.heap.size #[.int .i64 m, .slice (some ⟨pb, po, none⟩) fr.length c] 26] ((wq.alloc (.cells #[.slice none 0 0, .bool false] 41))) [.blk wq.heap.size #[.slice none 0 0, .bool false] 41, .blk W7.heap.size #[.int .i64 m2, .slice Av (tt.length + k) cv] 26, .row w.heap.size 41 2 (.slice Av (tt.length + k) cv) (tt.length + k) (cat css), .blk W6.heap.size #[.int .i64 m, .slice A6 fr.length c6] 26, .row w.heap.size 41 2 (.slice A6 fr.length c6) fr.length (cat dss), .blk Wq.heap.size #[.int .i64 (tt.length : Int)] 3, .blk W3.heap.size #[.slice (some ⟨b, o, none⟩) l.length c3] 48, .blk (w.heap.size + 1 + 1 + 1 + 1 + 1) #[.int .i64 0, .int .i64 0] 31, .blk (w.heap.size + 1 + 1 + 1 + 1) #[.int .i64 0, .slice none 0 0] 26, .blk (w.heap.size + 1 + 1 + 1) #[.int .i64 0, .slice none 0 0] 26, .blk (w.heap.size + 1 + 1) #[.int .i64 m2, .slice B tt.length d] 26, .blk (w.heap.size + 1) #[.int .i64 v.k, .int .i64 v.n] 31, .blk w.heap.size #[.int .i64 m, .slice (some ⟨pb, po, none⟩) fr.length c] 26] := K'
                replace HT := Lib.hid T'
                replace HF := Lib.hid (HF.out.move K')
                replace HTt := Lib.hid (HTt.out.move K')
                replace Hl := Lib.hid (Hl.out.move (by decide) K')
                replace Hr := Lib.hid (Hr.out.move (by decide) K')
                clear T' K'
                replace hw : w.heap.size + 1 + 1 + 1 + 1 + 1 + 1 ≤ ((wq.alloc (.cells #[.slice none 0 0, .bool false] 41))).heap.size := Nat.le_trans hw (by simp)
                replace hz : W7.heap.size + 1 ≤ ((wq.alloc (.cells #[.slice none 0 0, .bool false] 41))).heap.size := Nat.le_trans hz (by simp)
                obtain ⟨T', K'⟩ := HT.out.nilRow w.heap.size 31 2
                replace T' : St w.heap.size w ((wq.alloc (.cells #[.slice none 0 0, .bool false] 41))) [.row w.heap.size 31 2 (.slice none 0 0) 0 (cat []), .blk wq.heap.size #[.slice none 0 0, .bool false] 41, .blk W7.heap.size #[.int .i64 m2, .slice Av (tt.length + k) cv] 26, .row w.heap.size 41 2 (.slice Av (tt.length + k) cv) (tt.length + k) (cat css), .blk W6.heap.size #[.int .i64 m, .slice A6 fr.length c6] 26, .row w.heap.size 41 2 (.slice A6 fr.length c6) fr.length (cat dss), .blk Wq.heap.size #[.int .i64 (tt.length : Int)] 3, .blk W3.heap.size #[.slice (some ⟨b, o, none⟩) l.length c3] 48, .blk (w.heap.size + 1 + 1 + 1 + 1 + 1) #[.int .i64 0, .int .i64 0] 31, .blk (w.heap.size + 1 + 1 + 1 + 1) #[.int .i64 0, .slice none 0 0] 26, .blk (w.heap.size + 1 + 1 + 1) #[.int .i64 0, .slice none 0 0] 26, .blk (w.heap.size + 1 + 1) #[.int .i64 m2, .slice B tt.length d] 26, .blk (w.heap.size + 1) #[.int .i64 v.k, .int .i64 v.n] 31, .blk w.heap.size #[.int .i64 m, .slice (some ⟨pb, po, none⟩) fr.length c] 26] := T'
                replace K' : Keeps ((wq.alloc (.cells #[.slice none 0 0, .bool false] 41))) [.blk wq.heap.size #[.slice none 0 0, .bool false] 41, .blk W7.heap.size #[.int .i64 m2, .slice Av (tt.length + k) cv] 26, .row w.heap.size 41 2 (.slice Av (tt.length + k) cv) (tt.length + k) (cat css), .blk W6.heap.size #[.int .i64 m, .slice A6 fr.length c6] 26, .row w.heap.size 41 2 (.slice A6 fr.length c6) fr.length (cat dss), .blk Wq.heap.size #[.int .i64 (tt.length : Int)] 3, .blk W3.heap.size #[.slice (some ⟨b, o, none⟩) l.length c3] 48, .blk (w.heap.size + 1 + 1 + 1 + 1 + 1) #[.int .i64 0, .int .i64 0] 31, .blk (w.heap.size + 1 + 1 + 1 + 1) #[.int .i64 0, .slice none 0 0] 26, .blk (w.heap.size + 1 + 1 + 1) #[.int .i64 0, .slice none 0 0] 26, .blk (w.heap.size + 1 + 1) #[.int .i64 m2, .slice B tt.length d] 26, .blk (w.heap.size + 1) #[.int .i64 v.k, .int .i64 v.n] 31, .blk w.heap.size #[.int .i64 m, .slice (some ⟨pb, po, none⟩) fr.length c] 26] ((wq.alloc (.cells #[.slice none 0 0, .bool false] 41))) [.row w.heap.size 31 2 (.slice none 0 0) 0 (cat []), .blk wq.heap.size #[.slice none 0 0, .bool false] 41, .blk W7.heap.size #[.int .i64 m2, .slice Av (tt.length + k) cv] 26, .row w.heap.size 41 2 (.slice Av (tt.length + k) cv) (tt.length + k) (cat css), .blk W6.heap.size #[.int .i64 m, .slice A6 fr.length c6] 26, .row w.heap.size 41 2 (.slice A6 fr.length c6) fr.length (cat dss), .blk Wq.heap.size #[.int .i64 (tt.length : Int)] 3, .blk W3.heap.size #[.slice (some ⟨b, o, none⟩) l.length c3] 48, .blk (w.heap.size + 1 + 1 + 1 + 1 + 1) #[.int .i64 0, .int .i64 0] 31, .blk (w.heap.size + 1 + 1 + 1 + 1) #[.int .i64 0, .slice none 0 0] 26, .blk (w.heap.size + 1 + 1 + 1) #[.int .i64 0, .slice none 0 0] 26, .blk (w.heap.size + 1 + 1) #[.int .i64 m2, .slice B tt.length d] 26, .blk (w.heap.size + 1) #[.int .i64 v.k, .int .i64 v.n] 31, .blk w.heap.size #[.int .i64 m, .slice (some ⟨pb, po, none⟩) fr.length c] 26] := K'
                replace HT := Lib.hid T'
                replace HF := Lib.hid (HF.out.move K')
                replace HTt := Lib.hid (HTt.out.move K')
                replace Hl := Lib.hid (Hl.out.move (by decide) K')
                replace Hr := Lib.hid (Hr.out.move (by decide) K')
                clear T' K'
                clear r_b q_b r_l q_l r_from q_from z_b z_l z_from
                generalize (wq.alloc (.cells #[.slice none 0 0, .bool false] 41)) = wi at *
                replace hz : wq.heap.size + 1 ≤ wi.heap.size := (HT.out.in_ 1 rfl rfl).2
                clear y0 y1
                go_wp2_with fail
                go_loopw [20] (fun i wp => ∃ (p : Nat) (vo : Value), p ≤ ob.fields.length ∧ i = .int .i64 p ∧ St w.heap.size w wp [.row w.heap.size 31 2 vo p (cat (vcs ((ob.fields.map (newV (plM tt.length l))).take p))), .blk wq.heap.size #[vo, .bool false] 41, .blk W7.heap.size #[.int .i64 m2, .slice Av (tt.length + k) cv] 26, .row w.heap.size 41 2 (.slice Av (tt.length + k) cv) (tt.length + k) (cat css), .blk W6.heap.size #[.int .i64 m, .slice A6 fr.length c6] 26, .row w.heap.size 41 2 (.slice A6 fr.length c6) fr.length (cat dss), .blk Wq.heap.size #[.int .i64 (tt.length : Int)] 3, .blk W3.heap.size #[.slice (some ⟨b, o, none⟩) l.length c3] 48, .blk (w.heap.size + 1 + 1 + 1 + 1 + 1) #[.int .i64 0, .int .i64 0] 31, .blk (w.heap.size + 1 + 1 + 1 + 1) #[.int .i64 0, .slice none 0 0] 26, .blk (w.heap.size + 1 + 1 + 1) #[.int .i64 0, .slice none 0 0] 26, .blk (w.heap.size + 1 + 1) #[.int .i64 m2, .slice B tt.length d] 26, .blk (w.heap.size + 1) #[.int .i64 v.k, .int .i64 v.n] 31, .blk w.heap.size #[.int .i64 m, .slice (some ⟨pb, po, none⟩) fr.length c] 26] ∧ Held obE wp (Fr w.heap.size [.row w.heap.size 31 2 vo p (cat (vcs ((ob.fields.map (newV (plM tt.length l))).take p))), .blk wq.heap.size #[vo, .bool false] 41, .blk W7.heap.size #[.int .i64 m2, .slice Av (tt.length + k) cv] 26, .row w.heap.size 41 2 (.slice Av (tt.length + k) cv) (tt.length + k) (cat css), .blk W6.heap.size #[.int .i64 m, .slice A6 fr.length c6] 26, .row w.heap.size 41 2 (.slice A6 fr.length c6) fr.length (cat dss), .blk Wq.heap.size #[.int .i64 (tt.length : Int)] 3, .blk W3.heap.size #[.slice (some ⟨b, o, none⟩) l.length c3] 48, .blk (w.heap.size + 1 + 1 + 1 + 1 + 1) #[.int .i64 0, .int .i64 0] 31, .blk (w.heap.size + 1 + 1 + 1 + 1) #[.int .i64 0, .slice none 0 0] 26, .blk (w.heap.size + 1 + 1 + 1) #[.int .i64 0, .slice none 0 0] 26, .blk (w.heap.size + 1 + 1) #[.int .i64 m2, .slice B tt.length d] 26, .blk (w.heap.size + 1) #[.int .i64 v.k, .int .i64 v.n] 31, .blk w.heap.size #[.int .i64 m, .slice (some ⟨pb, po, none⟩) fr.length c] 26]) css (carr fr tt l k) ∧ Held obE wp (Fr w.heap.size [.row w.heap.size 31 2 vo p (cat (vcs ((ob.fields.map (newV (plM tt.length l))).take p))), .blk wq.heap.size #[vo, .bool false] 41, .blk W7.heap.size #[.int .i64 m2, .slice Av (tt.length + k) cv] 26, .row w.heap.size 41 2 (.slice Av (tt.length + k) cv) (tt.length + k) (cat css), .blk W6.heap.size #[.int .i64 m, .slice A6 fr.length c6] 26, .row w.heap.size 41 2 (.slice A6 fr.length c6) fr.length (cat dss), .blk Wq.heap.size #[.int .i64 (tt.length : Int)] 3, .blk W3.heap.size #[.slice (some ⟨b, o, none⟩) l.length c3] 48, .blk (w.heap.size + 1 + 1 + 1 + 1 + 1) #[.int .i64 0, .int .i64 0] 31, .blk (w.heap.size + 1 + 1 + 1 + 1) #[.int .i64 0, .slice none 0 0] 26, .blk (w.heap.size + 1 + 1 + 1) #[.int .i64 0, .slice none 0 0] 26, .blk (w.heap.size + 1 + 1) #[.int .i64 m2, .slice B tt.length d] 26, .blk (w.heap.size + 1) #[.int .i64 v.k, .int .i64 v.n] 31, .blk w.heap.size #[.int .i64 m, .slice (some ⟨pb, po, none⟩) fr.length c] 26]) dss (movedL fr (if move then l.take k else [])) ∧ RdSl obE wp (Fr 0 [.row w.heap.size 31 2 vo p (cat (vcs ((ob.fields.map (newV (plM tt.length l))).take p))), .blk wq.heap.size #[vo, .bool false] 41, .blk W7.heap.size #[.int .i64 m2, .slice Av (tt.length + k) cv] 26, .row w.heap.size 41 2 (.slice Av (tt.length + k) cv) (tt.length + k) (cat css), .blk W6.heap.size #[.int .i64 m, .slice A6 fr.length c6] 26, .row w.heap.size 41 2 (.slice A6 fr.length c6) fr.length (cat dss), .blk Wq.heap.size #[.int .i64 (tt.length : Int)] 3, .blk W3.heap.size #[.slice (some ⟨b, o, none⟩) l.length c3] 48, .blk (w.heap.size + 1 + 1 + 1 + 1 + 1) #[.int .i64 0, .int .i64 0] 31, .blk (w.heap.size + 1 + 1 + 1 + 1) #[.int .i64 0, .slice none 0 0] 26, .blk (w.heap.size + 1 + 1 + 1) #[.int .i64 0, .slice none 0 0] 26, .blk (w.heap.size + 1 + 1) #[.int .i64 m2, .slice B tt.length d] 26, .blk (w.heap.size + 1) #[.int .i64 v.k, .int .i64 v.n] 31, .blk w.heap.size #[.int .i64 m, .slice (some ⟨pb, po, none⟩) fr.length c] 26]) (.slice (some ⟨pb, po, none⟩) fr.length c) fr ∧ RdSl iE wp (Fr 0 [.row w.heap.size 31 2 vo p (cat (vcs ((ob.fields.map (newV (plM tt.length l))).take p))), .blk wq.heap.size #[vo, .bool false] 41, .blk W7.heap.size #[.int .i64 m2, .slice Av (tt.length + k) cv] 26, .row w.heap.size 41 2 (.slice Av (tt.length + k) cv) (tt.length + k) (cat css), .blk W6.heap.size #[.int .i64 m, .slice A6 fr.length c6] 26, .row w.heap.size 41 2 (.slice A6 fr.length c6) fr.length (cat dss), .blk Wq.heap.size #[.int .i64 (tt.length : Int)] 3, .blk W3.heap.size #[.slice (some ⟨b, o, none⟩) l.length c3] 48, .blk (w.heap.size + 1 + 1 + 1 + 1 + 1) #[.int .i64 0, .int .i64 0] 31, .blk (w.heap.size + 1 + 1 + 1 + 1) #[.int .i64 0, .slice none 0 0] 26, .blk (w.heap.size + 1 + 1 + 1) #[.int .i64 0, .slice none 0 0] 26, .blk (w.heap.size + 1 + 1) #[.int .i64 m2, .slice B tt.length d] 26, .blk (w.heap.size + 1) #[.int .i64 v.k, .int .i64 v.n] 31, .blk w.heap.size #[.int .i64 m, .slice (some ⟨pb, po, none⟩) fr.length c] 26]) (.slice (some ⟨b, o, none⟩) l.length c3) l ∧ wq.heap.size + 1 ≤ wp.heap.size ∧ w.heap.size + 1 + 1 + 1 + 1 + 1 + 1 ≤ wp.heap.size) (fun i _ => ob.fields.length - (intOf i).toNat)
                case atStart => exact ⟨0, .slice none 0 0, Nat.zero_le _, rfl, HT.out, HTt.out, HF.out, Hr.out, Hl.out, hz, hw⟩
                case round =>
                  generalize wr = wp at *
                  clear HT HF HTt Hl Hr hz hw
                  obtain ⟨p, vo, hp, rfl, ht, htt, hf, hr, hl, hz, hw⟩ := hrel
                  have HT := Lib.hid ht
                  have HTt := Lib.hid htt
                  have HF := Lib.hid hf
                  have Hl := Lib.hid hl
                  have Hr := Lib.hid hr
                  clear ht htt hf hl hr
                  obtain ⟨Ao, co, rfl⟩ := own_form (HT.out.own 0 rfl)
                  have y0 := rd_i_at Hl.out HX.out
                  obtain ⟨Bf2, df2, y1, hfd2⟩ := rd_o_at Hr.out Hob.out
                  by_cases hpl : p < ob.fields.length
                  · obtain ⟨x, hx⟩ : ∃ x, ob.fields[p]? = some x := ⟨ob.fields[p], List.getElem?_eq_getElem hpl⟩
                    obtain ⟨b', o', rfl, _, hbs, y2, y3⟩ := hfd2.at_v hx
                    have HX2 := Lib.hid hx
                    have Hin2 := Lib.hid (Hin.out x (List.mem_of_getElem? hx))
                    clear hx
                    have i5 : (0 : Int) ≤ (p : Int) := by omega
                    have i6 : (p : Int) < (ob.fields.length : Int) := by omega
                    obtain ⟨r_ob, q_ob, -, -, -, -, r_n, q_n, r_l, q_l, -, -, -, -, -, -, -, -, -, -, r_from, q_from, -⟩ := HT.out.rules
                    have z_ob : wq.heap.size < wp.heap.size := (HT.out.in_ 1 rfl rfl).2
                    have z_n : Wq.heap.size < wp.heap.size := (HT.out.in_ 6 rfl rfl).2
                    have z_l : W3.heap.size < wp.heap.size := (HT.out.in_ 7 rfl rfl).2
                    have z_from : w.heap.size < wp.heap.size := (HT.out.in_ 13 rfl rfl).2
                    go_wp2_with fail
                    refine wp_region_plan [.still [0, 1, 2, 3, 4, 5, 6, 7, 8, 9, 10, 11]] (by kernel_rfl) (by kernel_rfl) ?_
                    refine plan_still ?_
                    simp only [pick, List.getElem?_toArray, List.getElem?_cons_succ, List.getElem?_cons_zero]
                    repeat still_step
                    refine wpStill_nil ?_
                    refine plan_end (NoPanic.normal ?_)
                    obtain ⟨T', K'⟩ := HT.out.drew'
                    replace T' : St w.heap.size w wp.drew [.row w.heap.size 31 2 (.slice Ao p co) p (cat (vcs ((ob.fields.map (newV (plM tt.length l))).take p))), .blk wq.heap.size #[.slice Ao p co, .bool false] 41, .blk W7.heap.size #[.int .i64 m2, .slice Av (tt.length + k) cv] 26, .row w.heap.size 41 2 (.slice Av (tt.length + k) cv) (tt.length + k) (cat css), .blk W6.heap.size #[.int .i64 m, .slice A6 fr.length c6] 26, .row w.heap.size 41 2 (.slice A6 fr.length c6) fr.length (cat dss), .blk Wq.heap.size #[.int .i64 (tt.length : Int)] 3, .blk W3.heap.size #[.slice (some ⟨b, o, none⟩) l.length c3] 48, .blk (w.heap.size + 1 + 1 + 1 + 1 + 1) #[.int .i64 0, .int .i64 0] 31, .blk (w.heap.size + 1 + 1 + 1 + 1) #[.int .i64 0, .slice none 0 0] 26, .blk (w.heap.size + 1 + 1 + 1) #[.int .i64 0, .slice none 0 0] 26, .blk (w.heap.size + 1 + 1) #[.int .i64 m2, .slice B tt.length d] 26, .blk (w.heap.size + 1) #[.int .i64 v.k, .int .i64 v.n] 31, .blk w.heap.size #[.int .i64 m, .slice (some ⟨pb, po, none⟩) fr.length c] 26] := T'
                    replace K' : Keeps wp [.row w.heap.size 31 2 (.slice Ao p co) p (cat (vcs ((ob.fields.map (newV (plM tt.length l))).take p))), .blk wq.heap.size #[.slice Ao p co, .bool false] 41, .blk W7.heap.size #[.int .i64 m2, .slice Av (tt.length + k) cv] 26, .row w.heap.size 41 2 (.slice Av (tt.length + k) cv) (tt.length + k) (cat css), .blk W6.heap.size #[.int .i64 m, .slice A6 fr.length c6] 26, .row w.heap.size 41 2 (.slice A6 fr.length c6) fr.length (cat dss), .blk Wq.heap.size #[.int .i64 (tt.length : Int)] 3, .blk W3.heap.size #[.slice (some ⟨b, o, none⟩) l.length c3] 48, .blk (w.heap.size + 1 + 1 + 1 + 1 + 1) #[.int .i64 0, .int .i64 0] 31, .blk (w.heap.size + 1 + 1 + 1 + 1) #[.int .i64 0, .slice none 0 0] 26, .blk (w.heap.size + 1 + 1 + 1) #[.int .i64 0, .slice none 0 0] 26, .blk (w.heap.size + 1 + 1) #[.int .i64 m2, .slice B tt.length d] 26, .blk (w.heap.size + 1) #[.int .i64 v.k, .int .i64 v.n] 31, .blk w.heap.size #[.int .i64 m, .slice (some ⟨pb, po, none⟩) fr.length c] 26] wp.drew [.row w.heap.size 31 2 (.slice Ao p co) p (cat (vcs ((ob.fields.map (newV (plM tt.length l))).take p))), .blk wq.heap.size #[.slice Ao p co, .bool false] 41, .blk W7.heap.size #[.int .i64 m2, .slice Av (tt.length + k) cv] 26, .row w.heap.size 41 2 (.slice Av (tt.length + k) cv) (tt.length + k) (cat css), .blk W6.heap.size #[.int .i64 m, .slice A6 fr.length c6] 26, .row w.heap.size 41 2 (.slice A6 fr.length c6) fr.length (cat dss), .blk Wq.heap.size #[.int .i64 (tt.length : Int)] 3, .blk W3.heap.size #[.slice (some ⟨b, o, none⟩) l.length c3] 48, .blk (w.heap.size + 1 + 1 + 1 + 1 + 1) #[.int .i64 0, .int .i64 0] 31, .blk (w.heap.size + 1 + 1 + 1 + 1) #[.int .i64 0, .slice none 0 0] 26, .blk (w.heap.size + 1 + 1 + 1) #[.int .i64 0, .slice none 0 0] 26, .blk (w.heap.size + 1 + 1) #[.int .i64 m2, .slice B tt.length d] 26, .blk (w.heap.size + 1) #[.int .i64 v.k, .int .i64 v.n] 31, .blk w.heap.size #[.int .i64 m, .slice (some ⟨pb, po, none⟩) fr.length c] 26] := K'
                    replace HT := Lib.hid T'
                    replace HF := Lib.hid (HF.out.move K')
                    replace HTt := Lib.hid (HTt.out.move K')
                    replace Hl := Lib.hid (Hl.out.move (by decide) K')
                    replace Hr := Lib.hid (Hr.out.move (by decide) K')
                    clear T' K'
                    replace hz : wq.heap.size + 1 ≤ wp.drew.heap.size := hz
                    replace hw : w.heap.size + 1 + 1 + 1 + 1 + 1 + 1 ≤ wp.drew.heap.size := hw
                    clear y0 y1 y2 y3 hfd2
                    clear r_ob q_ob r_n q_n r_l q_l r_from q_from z_ob z_n z_l z_from
                    generalize wp.drew = wz at *
                    obtain ⟨r_ob, q_ob, -, -, -, -, r_n, q_n, r_l, q_l, -, -, -, -, -, -, -, -, -, -, r_from, q_from, -⟩ := HT.out.rules
                    have z_ob : wq.heap.size < wz.heap.size := (HT.out.in_ 1 rfl rfl).2
                    have z_n : Wq.heap.size < wz.heap.size := (HT.out.in_ 6 rfl rfl).2
                    have z_l : W3.heap.size < wz.heap.size := (HT.out.in_ 7 rfl rfl).2
                    have z_from : w.heap.size < wz.heap.size := (HT.out.in_ 13 rfl rfl).2
                    have y0 := rd_i_at Hl.out HX.out
                    obtain ⟨Bf2, df2, y1, hfd2⟩ := rd_o_at Hr.out Hob.out
                    obtain ⟨b', o', rfl, _, hbs, y2, y3⟩ := hfd2.at_v HX2.out
                    clear hfd2
                    go_wp2_with fail
                    refine wp_region_plan [.still [0, 1, 2, 3, 4, 5, 6, 7, 8, 9, 10, 11, 12, 13, 14], .loud 15 [0, 1], .loud 16 [0, 1], .loud 17 [], .still [18], .loud 19 []] (by kernel_rfl) (by kernel_rfl) ?_
                    refine plan_still ?_
                    simp only [pick, List.getElem?_toArray, List.getElem?_cons_succ, List.getElem?_cons_zero]
                    repeat still_step
                    refine wpStill_nil ?_
                    refine plan_loud ?_
                    simp only [pick, List.getElem?_toArray, List.getElem?_cons_succ, List.getElem?_cons_zero]
                    go_wp2_with fail
                    obtain ⟨T', K'⟩ := HT.out.drew'
                    replace T' : St w.heap.size w wz.drew [.row w.heap.size 31 2 (.slice Ao p co) p (cat (vcs ((ob.fields.map (newV (plM tt.length l))).take p))), .blk wq.heap.size #[.slice Ao p co, .bool false] 41, .blk W7.heap.size #[.int .i64 m2, .slice Av (tt.length + k) cv] 26, .row w.heap.size 41 2 (.slice Av (tt.length + k) cv) (tt.length + k) (cat css), .blk W6.heap.size #[.int .i64 m, .slice A6 fr.length c6] 26, .row w.heap.size 41 2 (.slice A6 fr.length c6) fr.length (cat dss), .blk Wq.heap.size #[.int .i64 (tt.length : Int)] 3, .blk W3.heap.size #[.slice (some ⟨b, o, none⟩) l.length c3] 48, .blk (w.heap.size + 1 + 1 + 1 + 1 + 1) #[.int .i64 0, .int .i64 0] 31, .blk (w.heap.size + 1 + 1 + 1 + 1) #[.int .i64 0, .slice none 0 0] 26, .blk (w.heap.size + 1 + 1 + 1) #[.int .i64 0, .slice none 0 0] 26, .blk (w.heap.size + 1 + 1) #[.int .i64 m2, .slice B tt.length d] 26, .blk (w.heap.size + 1) #[.int .i64 v.k, .int .i64 v.n] 31, .blk w.heap.size #[.int .i64 m, .slice (some ⟨pb, po, none⟩) fr.length c] 26] := T'
                    replace K' : Keeps wz [.row w.heap.size 31 2 (.slice Ao p co) p (cat (vcs ((ob.fields.map (newV (plM tt.length l))).take p))), .blk wq.heap.size #[.slice Ao p co, .bool false] 41, .blk W7.heap.size #[.int .i64 m2, .slice Av (tt.length + k) cv] 26, .row w.heap.size 41 2 (.slice Av (tt.length + k) cv) (tt.length + k) (cat css), .blk W6.heap.size #[.int .i64 m, .slice A6 fr.length c6] 26, .row w.heap.size 41 2 (.slice A6 fr.length c6) fr.length (cat dss), .blk Wq.heap.size #[.int .i64 (tt.length : Int)] 3, .blk W3.heap.size #[.slice (some ⟨b, o, none⟩) l.length c3] 48, .blk (w.heap.size + 1 + 1 + 1 + 1 + 1) #[.int .i64 0, .int .i64 0] 31, .blk (w.heap.size + 1 + 1 + 1 + 1) #[.int .i64 0, .slice none 0 0] 26, .blk (w.heap.size + 1 + 1 + 1) #[.int .i64 0, .slice none 0 0] 26, .blk (w.heap.size + 1 + 1) #[.int .i64 m2, .slice B tt.length d] 26, .blk (w.heap.size + 1) #[.int .i64 v.k, .int .i64 v.n] 31, .blk w.heap.size #[.int .i64 m, .slice (some ⟨pb, po, none⟩) fr.length c] 26] wz.drew [.row w.heap.size 31 2 (.slice Ao p co) p (cat (vcs ((ob.fields.map (newV (plM tt.length l))).take p))), .blk wq.heap.size #[.slice Ao p co, .bool false] 41, .blk W7.heap.size #[.int .i64 m2, .slice Av (tt.length + k) cv] 26, .row w.heap.size 41 2 (.slice Av (tt.length + k) cv) (tt.length + k) (cat css), .blk W6.heap.size #[.int .i64 m, .slice A6 fr.length c6] 26, .row w.heap.size 41 2 (.slice A6 fr.length c6) fr.length (cat dss), .blk Wq.heap.size #[.int .i64 (tt.length : Int)] 3, .blk W3.heap.size #[.slice (some ⟨b, o, none⟩) l.length c3] 48, .blk (w.heap.size + 1 + 1 + 1 + 1 + 1) #[.int .i64 0, .int .i64 0] 31, .blk (w.heap.size + 1 + 1 + 1 + 1) #[.int .i64 0, .slice none 0 0] 26, .blk (w.heap.size + 1 + 1 + 1) #[.int .i64 0, .slice none 0 0] 26, .blk (w.heap.size + 1 + 1) #[.int .i64 m2, .slice B tt.length d] 26, .blk (w.heap.size + 1) #[.int .i64 v.k, .int .i64 v.n] 31, .blk w.heap.size #[.int .i64 m, .slice (some ⟨pb, po, none⟩) fr.length c] 26] := K'
                    replace HT := Lib.hid T'
                    replace HF := Lib.hid (HF.out.move K')
                    replace HTt := Lib.hid (HTt.out.move K')
                    replace Hl := Lib.hid (Hl.out.move (by decide) K')
                    replace Hr := Lib.hid (Hr.out.move (by decide) K')
                    clear T' K'
                    replace hz : wq.heap.size + 1 ≤ wz.drew.heap.size := hz
                    replace hw : w.heap.size + 1 + 1 + 1 + 1 + 1 + 1 ≤ wz.drew.heap.size := hw
                    refine (fix_any tt.length _ _ _ l _ _ x _ (cell_of_row _ _ 0 _ _ _ (HT.out.heap 7 rfl)) (cell_of_row _ _ 0 _ _ _ (HT.out.heap 6 rfl)) Hl.out Hin2.out Htold.out.nodup (by omega)).mono ?_
                    rintro e wb ⟨rfl, hb⟩
                    clear r_ob q_ob r_n q_n r_l q_l r_from q_from z_ob z_n z_l z_from
                    obtain ⟨T', K'⟩ := HT.out.call hb
                    replace T' : St w.heap.size w wb [.row w.heap.size 31 2 (.slice Ao p co) p (cat (vcs ((ob.fields.map (newV (plM tt.length l))).take p))), .blk wq.heap.size #[.slice Ao p co, .bool false] 41, .blk W7.heap.size #[.int .i64 m2, .slice Av (tt.length + k) cv] 26, .row w.heap.size 41 2 (.slice Av (tt.length + k) cv) (tt.length + k) (cat css), .blk W6.heap.size #[.int .i64 m, .slice A6 fr.length c6] 26, .row w.heap.size 41 2 (.slice A6 fr.length c6) fr.length (cat dss), .blk Wq.heap.size #[.int .i64 (tt.length : Int)] 3, .blk W3.heap.size #[.slice (some ⟨b, o, none⟩) l.length c3] 48, .blk (w.heap.size + 1 + 1 + 1 + 1 + 1) #[.int .i64 0, .int .i64 0] 31, .blk (w.heap.size + 1 + 1 + 1 + 1) #[.int .i64 0, .slice none 0 0] 26, .blk (w.heap.size + 1 + 1 + 1) #[.int .i64 0, .slice none 0 0] 26, .blk (w.heap.size + 1 + 1) #[.int .i64 m2, .slice B tt.length d] 26, .blk (w.heap.size + 1) #[.int .i64 v.k, .int .i64 v.n] 31, .blk w.heap.size #[.int .i64 m, .slice (some ⟨pb, po, none⟩) fr.length c] 26] := T'
                    replace K' : Keeps wz.drew [.row w.heap.size 31 2 (.slice Ao p co) p (cat (vcs ((ob.fields.map (newV (plM tt.length l))).take p))), .blk wq.heap.size #[.slice Ao p co, .bool false] 41, .blk W7.heap.size #[.int .i64 m2, .slice Av (tt.length + k) cv] 26, .row w.heap.size 41 2 (.slice Av (tt.length + k) cv) (tt.length + k) (cat css), .blk W6.heap.size #[.int .i64 m, .slice A6 fr.length c6] 26, .row w.heap.size 41 2 (.slice A6 fr.length c6) fr.length (cat dss), .blk Wq.heap.size #[.int .i64 (tt.length : Int)] 3, .blk W3.heap.size #[.slice (some ⟨b, o, none⟩) l.length c3] 48, .blk (w.heap.size + 1 + 1 + 1 + 1 + 1) #[.int .i64 0, .int .i64 0] 31, .blk (w.heap.size + 1 + 1 + 1 + 1) #[.int .i64 0, .slice none 0 0] 26, .blk (w.heap.size + 1 + 1 + 1) #[.int .i64 0, .slice none 0 0] 26, .blk (w.heap.size + 1 + 1) #[.int .i64 m2, .slice B tt.length d] 26, .blk (w.heap.size + 1) #[.int .i64 v.k, .int .i64 v.n] 31, .blk w.heap.size #[.int .i64 m, .slice (some ⟨pb, po, none⟩) fr.length c] 26] wb [.row w.heap.size 31 2 (.slice Ao p co) p (cat (vcs ((ob.fields.map (newV (plM tt.length l))).take p))), .blk wq.heap.size #[.slice Ao p co, .bool false] 41, .blk W7.heap.size #[.int .i64 m2, .slice Av (tt.length + k) cv] 26, .row w.heap.size 41 2 (.slice Av (tt.length + k) cv) (tt.length + k) (cat css), .blk W6.heap.size #[.int .i64 m, .slice A6 fr.length c6] 26, .row w.heap.size 41 2 (.slice A6 fr.length c6) fr.length (cat dss), .blk Wq.heap.size #[.int .i64 (tt.length : Int)] 3, .blk W3.heap.size #[.slice (some ⟨b, o, none⟩) l.length c3] 48, .blk (w.heap.size + 1 + 1 + 1 + 1 + 1) #[.int .i64 0, .int .i64 0] 31, .blk (w.heap.size + 1 + 1 + 1 + 1) #[.int .i64 0, .slice none 0 0] 26, .blk (w.heap.size + 1 + 1 + 1) #[.int .i64 0, .slice none 0 0] 26, .blk (w.heap.size + 1 + 1) #[.int .i64 m2, .slice B tt.length d] 26, .blk (w.heap.size + 1) #[.int .i64 v.k, .int .i64 v.n] 31, .blk w.heap.size #[.int .i64 m, .slice (some ⟨pb, po, none⟩) fr.length c] 26] := K'
                    replace HT := Lib.hid T'
                    replace HF := Lib.hid (HF.out.move K')
                    replace HTt := Lib.hid (HTt.out.move K')
                    replace Hl := Lib.hid (Hl.out.move (by decide) K')
                    replace Hr := Lib.hid (Hr.out.move (by decide) K')
                    clear T' K'
                    replace hz : wq.heap.size + 1 ≤ wb.heap.size := Nat.le_trans hz hb.size
                    replace hw : w.heap.size + 1 + 1 + 1 + 1 + 1 + 1 ≤ wb.heap.size := Nat.le_trans hw hb.size
                    clear hb
                    obtain ⟨r_ob, q_ob, -, -, -, -, r_n, q_n, r_l, q_l, -, -, -, -, -, -, -, -, -, -, r_from, q_from, -⟩ := HT.out.rules
                    have z_ob : wq.heap.size < wb.heap.size := (HT.out.in_ 1 rfl rfl).2
                    have z_n : Wq.heap.size < wb.heap.size := (HT.out.in_ 6 rfl rfl).2
                    have z_l : W3.heap.size < wb.heap.size := (HT.out.in_ 7 rfl rfl).2
                    have z_from : w.heap.size < wb.heap.size := (HT.out.in_ 13 rfl rfl).2
                    go_wp2_with fail
                    refine ⟨?_, ?_⟩
                    · simp only [Again, pick, List.getElem?_toArray, List.getElem?_cons_succ, List.getElem?_cons_zero]
                      refine ⟨?_, ?_, trivial⟩
                      all_goals (still_step; exact wpStill_nil rfl)
                    refine plan_loud ?_
                    simp only [pick, List.getElem?_toArray, List.getElem?_cons_succ, List.getElem?_cons_zero]
                    go_wp2_with fail
                    have hbo : wq.heap.size < wb.heap.size := by omega
                    refine ⟨?_, ?_⟩
                    · simp only [Again, pick, List.getElem?_toArray, List.getElem?_cons_succ, List.getElem?_cons_zero]
                      refine ⟨?_, ?_, trivial⟩
                      all_goals (still_step; exact wpStill_nil rfl)
                    refine plan_loud ?_
                    simp only [pick, List.getElem?_toArray, List.getElem?_cons_succ, List.getElem?_cons_zero]
                    go_wp2_with (at_builtin; go_loud (refine wpList_append_css rfl (.tmp 96) (.tmp 111) _ rfl (e := 31) (size := 2) (bytes := 16) Try.underlying27 infoV rfl (by omega) HT.out 0 rfl rfl [.int .i64 (newV (plM tt.length l) x).k, .int .i64 (newV (plM tt.length l) x).n] 31 rfl rfl (by simp [Value.oneCell']) (by unfold maxLen; omega) (by omega) (by omega) ?next))
                    case next =>
                      intro A8 c8 wc T' K' hs3
                      clear r_ob q_ob r_n q_n r_l q_l r_from q_from z_ob z_n z_l z_from
                      replace T' : St w.heap.size w wc [.row w.heap.size 31 2 (.slice A8 (p + 1) c8) (p + 1) (cat (vcs ((ob.fields.map (newV (plM tt.length l))).take p) ++ [[Value.int .i64 (newV (plM tt.length l) x).k, Value.int .i64 (newV (plM tt.length l) x).n]])), .blk wq.heap.size #[.slice Ao p co, .bool false] 41, .blk W7.heap.size #[.int .i64 m2, .slice Av (tt.length + k) cv] 26, .row w.heap.size 41 2 (.slice Av (tt.length + k) cv) (tt.length + k) (cat css), .blk W6.heap.size #[.int .i64 m, .slice A6 fr.length c6] 26, .row w.heap.size 41 2 (.slice A6 fr.length c6) fr.length (cat dss), .blk Wq.heap.size #[.int .i64 (tt.length : Int)] 3, .blk W3.heap.size #[.slice (some ⟨b, o, none⟩) l.length c3] 48, .blk (w.heap.size + 1 + 1 + 1 + 1 + 1) #[.int .i64 0, .int .i64 0] 31, .blk (w.heap.size + 1 + 1 + 1 + 1) #[.int .i64 0, .slice none 0 0] 26, .blk (w.heap.size + 1 + 1 + 1) #[.int .i64 0, .slice none 0 0] 26, .blk (w.heap.size + 1 + 1) #[.int .i64 m2, .slice B tt.length d] 26, .blk (w.heap.size + 1) #[.int .i64 v.k, .int .i64 v.n] 31, .blk w.heap.size #[.int .i64 m, .slice (some ⟨pb, po, none⟩) fr.length c] 26] := T'
                      replace K' : Keeps wb [.row w.heap.size 31 2 (.slice Ao p co) p (cat (vcs ((ob.fields.map (newV (plM tt.length l))).take p))), .blk wq.heap.size #[.slice Ao p co, .bool false] 41, .blk W7.heap.size #[.int .i64 m2, .slice Av (tt.length + k) cv] 26, .row w.heap.size 41 2 (.slice Av (tt.length + k) cv) (tt.length + k) (cat css), .blk W6.heap.size #[.int .i64 m, .slice A6 fr.length c6] 26, .row w.heap.size 41 2 (.slice A6 fr.length c6) fr.length (cat dss), .blk Wq.heap.size #[.int .i64 (tt.length : Int)] 3, .blk W3.heap.size #[.slice (some ⟨b, o, none⟩) l.length c3] 48, .blk (w.heap.size + 1 + 1 + 1 + 1 + 1) #[.int .i64 0, .int .i64 0] 31, .blk (w.heap.size + 1 + 1 + 1 + 1) #[.int .i64 0, .slice none 0 0] 26, .blk (w.heap.size + 1 + 1 + 1) #[.int .i64 0, .slice none 0 0] 26, .blk (w.heap.size + 1 + 1) #[.int .i64 m2, .slice B tt.length d] 26, .blk (w.heap.size + 1) #[.int .i64 v.k, .int .i64 v.n] 31, .blk w.heap.size #[.int .i64 m, .slice (some ⟨pb, po, none⟩) fr.length c] 26] wc [.row w.heap.size 31 2 (.slice A8 (p + 1) c8) (p + 1) (cat (vcs ((ob.fields.map (newV (plM tt.length l))).take p) ++ [[Value.int .i64 (newV (plM tt.length l) x).k, Value.int .i64 (newV (plM tt.length l) x).n]])), .blk wq.heap.size #[.slice Ao p co, .bool false] 41, .blk W7.heap.size #[.int .i64 m2, .slice Av (tt.length + k) cv] 26, .row w.heap.size 41 2 (.slice Av (tt.length + k) cv) (tt.length + k) (cat css), .blk W6.heap.size #[.int .i64 m, .slice A6 fr.length c6] 26, .row w.heap.size 41 2 (.slice A6 fr.length c6) fr.length (cat dss), .blk Wq.heap.size #[.int .i64 (tt.length : Int)] 3, .blk W3.heap.size #[.slice (some ⟨b, o, none⟩) l.length c3] 48, .blk (w.heap.size + 1 + 1 + 1 + 1 + 1) #[.int .i64 0, .int .i64 0] 31, .blk (w.heap.size + 1 + 1 + 1 + 1) #[.int .i64 0, .slice none 0 0] 26, .blk (w.heap.size + 1 + 1 + 1) #[.int .i64 0, .slice none 0 0] 26, .blk (w.heap.size + 1 + 1) #[.int .i64 m2, .slice B tt.length d] 26, .blk (w.heap.size + 1) #[.int .i64 v.k, .int .i64 v.n] 31, .blk w.heap.size #[.int .i64 m, .slice (some ⟨pb, po, none⟩) fr.length c] 26] := K'
                      have hvs : vcs ((ob.fields.map (newV (plM tt.length l))).take p) ++ [[Value.int .i64 (newV (plM tt.length l) x).k, Value.int .i64 (newV (plM tt.length l) x).n]] = vcs ((ob.fields.map (newV (plM tt.length l))).take (p + 1)) := by rw [vcs_snoc, List.take_add_one, List.getElem?_map, HX2.out]; rfl
                      rw [hvs] at T' K'
                      replace HT := Lib.hid T'
                      replace HF := Lib.hid (HF.out.move K')
                      replace HTt := Lib.hid (HTt.out.move K')
                      replace Hl := Lib.hid (Hl.out.move (by decide) K')
                      replace Hr := Lib.hid (Hr.out.move (by decide) K')
                      clear T' K' hvs
                      replace hz : wq.heap.size + 1 ≤ wc.heap.size := by omega
                      replace hw : w.heap.size + 1 + 1 + 1 + 1 + 1 + 1 ≤ wc.heap.size := by omega
                      obtain ⟨r_ob, q_ob, -⟩ := HT.out.rules
                      have z_ob : wq.heap.size < wc.heap.size := (HT.out.in_ 1 rfl rfl).2
                      go_wp2_with fail
                      refine ⟨trivial, ?_⟩
                      refine plan_still ?_
                      simp only [pick, List.getElem?_toArray, List.getElem?_cons_succ, List.getElem?_cons_zero]
                      repeat still_step
                      refine wpStill_nil ?_
                      refine plan_loud ?_
                      simp only [pick, List.getElem?_toArray, List.getElem?_cons_succ, List.getElem?_cons_zero]
                      go_wp2_with fail
                      clear r_ob q_ob z_ob
                      obtain ⟨T', K'⟩ := HT.out.put 1 0 (.slice A8 (p + 1) c8) rfl
                      replace T' : St w.heap.size w ((wc.setCell ⟨wq.heap.size, 0, none⟩ (.slice A8 (p + 1) c8))) [.row w.heap.size 31 2 (.slice A8 (p + 1) c8) (p + 1) (cat (vcs ((ob.fields.map (newV (plM tt.length l))).take (p + 1)))), .blk wq.heap.size #[.slice A8 (p + 1) c8, .bool false] 41, .blk W7.heap.size #[.int .i64 m2, .slice Av (tt.length + k) cv] 26, .row w.heap.size 41 2 (.slice Av (tt.length + k) cv) (tt.length + k) (cat css), .blk W6.heap.size #[.int .i64 m, .slice A6 fr.length c6] 26, .row w.heap.size 41 2 (.slice A6 fr.length c6) fr.length (cat dss), .blk Wq.heap.size #[.int .i64 (tt.length : Int)] 3, .blk W3.heap.size #[.slice (some ⟨b, o, none⟩) l.length c3] 48, .blk (w.heap.size + 1 + 1 + 1 + 1 + 1) #[.int .i64 0, .int .i64 0] 31, .blk (w.heap.size + 1 + 1 + 1 + 1) #[.int .i64 0, .slice none 0 0] 26, .blk (w.heap.size + 1 + 1 + 1) #[.int .i64 0, .slice none 0 0] 26, .blk (w.heap.size + 1 + 1) #[.int .i64 m2, .slice B tt.length d] 26, .blk (w.heap.size + 1) #[.int .i64 v.k, .int .i64 v.n] 31, .blk w.heap.size #[.int .i64 m, .slice (some ⟨pb, po, none⟩) fr.length c] 26] := T'
                      replace K' : Keeps wc [.row w.heap.size 31 2 (.slice A8 (p + 1) c8) (p + 1) (cat (vcs ((ob.fields.map (newV (plM tt.length l))).take (p + 1)))), .blk wq.heap.size #[.slice Ao p co, .bool false] 41, .blk W7.heap.size #[.int .i64 m2, .slice Av (tt.length + k) cv] 26, .row w.heap.size 41 2 (.slice Av (tt.length + k) cv) (tt.length + k) (cat css), .blk W6.heap.size #[.int .i64 m, .slice A6 fr.length c6] 26, .row w.heap.size 41 2 (.slice A6 fr.length c6) fr.length (cat dss), .blk Wq.heap.size #[.int .i64 (tt.length : Int)] 3, .blk W3.heap.size #[.slice (some ⟨b, o, none⟩) l.length c3] 48, .blk (w.heap.size + 1 + 1 + 1 + 1 + 1) #[.int .i64 0, .int .i64 0] 31, .blk (w.heap.size + 1 + 1 + 1 + 1) #[.int .i64 0, .slice none 0 0] 26, .blk (w.heap.size + 1 + 1 + 1) #[.int .i64 0, .slice none 0 0] 26, .blk (w.heap.size + 1 + 1) #[.int .i64 m2, .slice B tt.length d] 26, .blk (w.heap.size + 1) #[.int .i64 v.k, .int .i64 v.n] 31, .blk w.heap.size #[.int .i64 m, .slice (some ⟨pb, po, none⟩) fr.length c] 26] ((wc.setCell ⟨wq.heap.size, 0, none⟩ (.slice A8 (p + 1) c8))) [.row w.heap.size 31 2 (.slice A8 (p + 1) c8) (p + 1) (cat (vcs ((ob.fields.map (newV (plM tt.length l))).take (p + 1)))), .blk wq.heap.size #[.slice A8 (p + 1) c8, .bool false] 41, .blk W7.heap.size #[.int .i64 m2, .slice Av (tt.length + k) cv] 26, .row w.heap.size 41 2 (.slice Av (tt.length + k) cv) (tt.length + k) (cat css), .blk W6.heap.size #[.int .i64 m, .slice A6 fr.length c6] 26, .row w.heap.size 41 2 (.slice A6 fr.length c6) fr.length (cat dss), .blk Wq.heap.size #[.int .i64 (tt.length : Int)] 3, .blk W3.heap.size #[.slice (some ⟨b, o, none⟩) l.length c3] 48, .blk (w.heap.size + 1 + 1 + 1 + 1 + 1) #[.int .i64 0, .int .i64 0] 31, .blk (w.heap.size + 1 + 1 + 1 + 1) #[.int .i64 0, .slice none 0 0] 26, .blk (w.heap.size + 1 + 1 + 1) #[.int .i64 0, .slice none 0 0] 26, .blk (w.heap.size + 1 + 1) #[.int .i64 m2, .slice B tt.length d] 26, .blk (w.heap.size + 1) #[.int .i64 v.k, .int .i64 v.n] 31, .blk w.heap.size #[.int .i64 m, .slice (some ⟨pb, po, none⟩) fr.length c] 26] := K'
                      replace HT := Lib.hid T'
                      replace HF := Lib.hid (HF.out.move K')
                      replace HTt := Lib.hid (HTt.out.move K')
                      replace Hl := Lib.hid (Hl.out.move (by decide) K')
                      replace Hr := Lib.hid (Hr.out.move (by decide) K')
                      clear T' K'
                      replace hz : wq.heap.size + 1 ≤ ((wc.setCell ⟨wq.heap.size, 0, none⟩ (.slice A8 (p + 1) c8))).heap.size := by simpa using hz
                      replace hw : w.heap.size + 1 + 1 + 1 + 1 + 1 + 1 ≤ ((wc.setCell ⟨wq.heap.size, 0, none⟩ (.slice A8 (p + 1) c8))).heap.size := by simpa using hw
                      generalize wc.setCell ⟨wq.heap.size, 0, none⟩ (.slice A8 (p + 1) c8) = wd at *
                      refine ⟨trivial, ?_⟩
                      refine plan_end (NoPanic.normal ?_)
                      go_wp2_with fail
                      go_roundw
                      case rel =>
                        refine ⟨p + 1, .slice A8 (p + 1) c8, by omega, by go_num, ?_, ?_, ?_, ?_, ?_, hz, hw⟩
                        · with_reducible exact HT.out
                        · with_reducible exact HTt.out
                        · with_reducible exact HF.out
                        · with_reducible exact Hr.out
                        · with_reducible exact Hl.out
                      case measure => simp [intOf]; omega
                  · obtain ⟨r_ob, q_ob, -, -, -, -, r_n, q_n, r_l, q_l, -, -, -, -, -, -, -, -, -, -, r_from, q_from, -⟩ := HT.out.rules
                    have z_ob : wq.heap.size < wp.heap.size := (HT.out.in_ 1 rfl rfl).2
                    have z_n : Wq.heap.size < wp.heap.size := (HT.out.in_ 6 rfl rfl).2
                    have z_l : W3.heap.size < wp.heap.size := (HT.out.in_ 7 rfl rfl).2
                    have z_from : w.heap.size < wp.heap.size := (HT.out.in_ 13 rfl rfl).2
                    clear hfd2
                    go_wp2_with fail
                    refine wp_region_plan [.still [0, 1, 2, 3, 4, 5, 6, 7, 8, 9, 10, 11]] (by kernel_rfl) (by kernel_rfl) ?_
                    refine plan_still ?_
                    simp only [pick, List.getElem?_toArray, List.getElem?_cons_succ, List.getElem?_cons_zero]
                    repeat still_step
                    refine wpStill_nil ?_
                    refine plan_end (NoPanic.normal ?_)
                    obtain ⟨T', K'⟩ := HT.out.drew'
                    replace T' : St w.heap.size w wp.drew [.row w.heap.size 31 2 (.slice Ao p co) p (cat (vcs ((ob.fields.map (newV (plM tt.length l))).take p))), .blk wq.heap.size #[.slice Ao p co, .bool false] 41, .blk W7.heap.size #[.int .i64 m2, .slice Av (tt.length + k) cv] 26, .row w.heap.size 41 2 (.slice Av (tt.length + k) cv) (tt.length + k) (cat css), .blk W6.heap.size #[.int .i64 m, .slice A6 fr.length c6] 26, .row w.heap.size 41 2 (.slice A6 fr.length c6) fr.length (cat dss), .blk Wq.heap.size #[.int .i64 (tt.length : Int)] 3, .blk W3.heap.size #[.slice (some ⟨b, o, none⟩) l.length c3] 48, .blk (w.heap.size + 1 + 1 + 1 + 1 + 1) #[.int .i64 0, .int .i64 0] 31, .blk (w.heap.size + 1 + 1 + 1 + 1) #[.int .i64 0, .slice none 0 0] 26, .blk (w.heap.size + 1 + 1 + 1) #[.int .i64 0, .slice none 0 0] 26, .blk (w.heap.size + 1 + 1) #[.int .i64 m2, .slice B tt.length d] 26, .blk (w.heap.size + 1) #[.int .i64 v.k, .int .i64 v.n] 31, .blk w.heap.size #[.int .i64 m, .slice (some ⟨pb, po, none⟩) fr.length c] 26] := T'
                    replace K' : Keeps wp [.row w.heap.size 31 2 (.slice Ao p co) p (cat (vcs ((ob.fields.map (newV (plM tt.length l))).take p))), .blk wq.heap.size #[.slice Ao p co, .bool false] 41, .blk W7.heap.size #[.int .i64 m2, .slice Av (tt.length + k) cv] 26, .row w.heap.size 41 2 (.slice Av (tt.length + k) cv) (tt.length + k) (cat css), .blk W6.heap.size #[.int .i64 m, .slice A6 fr.length c6] 26, .row w.heap.size 41 2 (.slice A6 fr.length c6) fr.length (cat dss), .blk Wq.heap.size #[.int .i64 (tt.length : Int)] 3, .blk W3.heap.size #[.slice (some ⟨b, o, none⟩) l.length c3] 48, .blk (w.heap.size + 1 + 1 + 1 + 1 + 1) #[.int .i64 0, .int .i64 0] 31, .blk (w.heap.size + 1 + 1 + 1 + 1) #[.int .i64 0, .slice none 0 0] 26, .blk (w.heap.size + 1 + 1 + 1) #[.int .i64 0, .slice none 0 0] 26, .blk (w.heap.size + 1 + 1) #[.int .i64 m2, .slice B tt.length d] 26, .blk (w.heap.size + 1) #[.int .i64 v.k, .int .i64 v.n] 31, .blk w.heap.size #[.int .i64 m, .slice (some ⟨pb, po, none⟩) fr.length c] 26] wp.drew [.row w.heap.size 31 2 (.slice Ao p co) p (cat (vcs ((ob.fields.map (newV (plM tt.length l))).take p))), .blk wq.heap.size #[.slice Ao p co, .bool false] 41, .blk W7.heap.size #[.int .i64 m2, .slice Av (tt.length + k) cv] 26, .row w.heap.size 41 2 (.slice Av (tt.length + k) cv) (tt.length + k) (cat css), .blk W6.heap.size #[.int .i64 m, .slice A6 fr.length c6] 26, .row w.heap.size 41 2 (.slice A6 fr.length c6) fr.length (cat dss), .blk Wq.heap.size #[.int .i64 (tt.length : Int)] 3, .blk W3.heap.size #[.slice (some ⟨b, o, none⟩) l.length c3] 48, .blk (w.heap.size + 1 + 1 + 1 + 1 + 1) #[.int .i64 0, .int .i64 0] 31, .blk (w.heap.size + 1 + 1 + 1 + 1) #[.int .i64 0, .slice none 0 0] 26, .blk (w.heap.size + 1 + 1 + 1) #[.int .i64 0, .slice none 0 0] 26, .blk (w.heap.size + 1 + 1) #[.int .i64 m2, .slice B tt.length d] 26, .blk (w.heap.size + 1) #[.int .i64 v.k, .int .i64 v.n] 31, .blk w.heap.size #[.int .i64 m, .slice (some ⟨pb, po, none⟩) fr.length c] 26] := K'
                    replace HT := Lib.hid T'
                    replace HF := Lib.hid (HF.out.move K')
                    replace HTt := Lib.hid (HTt.out.move K')
                    replace Hl := Lib.hid (Hl.out.move (by decide) K')
                    replace Hr := Lib.hid (Hr.out.move (by decide) K')
                    clear T' K'
                    replace hz : wq.heap.size + 1 ≤ wp.drew.heap.size := hz
                    replace hw : w.heap.size + 1 + 1 + 1 + 1 + 1 + 1 ≤ wp.drew.heap.size := hw
                    clear y0 y1
                    have hpp : p = ob.fields.length := by omega
                    have htk : (ob.fields.map (newV (plM tt.length l))).take p = ob.fields.map (newV (plM tt.length l)) := List.take_of_length_le (by simp; omega)
                    simp only [htk] at HT HTt HF Hl Hr
                    subst hpp
                    clear htk hpl
                    clear r_ob q_ob r_n q_n r_l q_l r_from q_from z_ob z_n z_l z_from
                    have Hv := Lib.hid (HT.out.rdOut (E := vE) (n := w.heap.size) (xs := ob.fields.map (newV (plM tt.length l))) (css := vcs (ob.fields.map (newV (plM tt.length l)))) 0 rfl rfl (by simp) (vcs_held _) (by simpa [vE] using hf4) (Nat.le_refl _) (by decide))
                    obtain ⟨T', K'⟩ := HT.out.drop 0
                    replace T' : St w.heap.size w wp.drew [.blk wq.heap.size #[.slice Ao ob.fields.length co, .bool false] 41, .blk W7.heap.size #[.int .i64 m2, .slice Av (tt.length + k) cv] 26, .row w.heap.size 41 2 (.slice Av (tt.length + k) cv) (tt.length + k) (cat css), .blk W6.heap.size #[.int .i64 m, .slice A6 fr.length c6] 26, .row w.heap.size 41 2 (.slice A6 fr.length c6) fr.length (cat dss), .blk Wq.heap.size #[.int .i64 (tt.length : Int)] 3, .blk W3.heap.size #[.slice (some ⟨b, o, none⟩) l.length c3] 48, .blk (w.heap.size + 1 + 1 + 1 + 1 + 1) #[.int .i64 0, .int .i64 0] 31, .blk (w.heap.size + 1 + 1 + 1 + 1) #[.int .i64 0, .slice none 0 0] 26, .blk (w.heap.size + 1 + 1 + 1) #[.int .i64 0, .slice none 0 0] 26, .blk (w.heap.size + 1 + 1) #[.int .i64 m2, .slice B tt.length d] 26, .blk (w.heap.size + 1) #[.int .i64 v.k, .int .i64 v.n] 31, .blk w.heap.size #[.int .i64 m, .slice (some ⟨pb, po, none⟩) fr.length c] 26] := T'
                    replace K' : Keeps wp.drew [.row w.heap.size 31 2 (.slice Ao ob.fields.length co) ob.fields.length (cat (vcs (ob.fields.map (newV (plM tt.length l))))), .blk wq.heap.size #[.slice Ao ob.fields.length co, .bool false] 41, .blk W7.heap.size #[.int .i64 m2, .slice Av (tt.length + k) cv] 26, .row w.heap.size 41 2 (.slice Av (tt.length + k) cv) (tt.length + k) (cat css), .blk W6.heap.size #[.int .i64 m, .slice A6 fr.length c6] 26, .row w.heap.size 41 2 (.slice A6 fr.length c6) fr.length (cat dss), .blk Wq.heap.size #[.int .i64 (tt.length : Int)] 3, .blk W3.heap.size #[.slice (some ⟨b, o, none⟩) l.length c3] 48, .blk (w.heap.size + 1 + 1 + 1 + 1 + 1) #[.int .i64 0, .int .i64 0] 31, .blk (w.heap.size + 1 + 1 + 1 + 1) #[.int .i64 0, .slice none 0 0] 26, .blk (w.heap.size + 1 + 1 + 1) #[.int .i64 0, .slice none 0 0] 26, .blk (w.heap.size + 1 + 1) #[.int .i64 m2, .slice B tt.length d] 26, .blk (w.heap.size + 1) #[.int .i64 v.k, .int .i64 v.n] 31, .blk w.heap.size #[.int .i64 m, .slice (some ⟨pb, po, none⟩) fr.length c] 26] wp.drew [.blk wq.heap.size #[.slice Ao ob.fields.length co, .bool false] 41, .blk W7.heap.size #[.int .i64 m2, .slice Av (tt.length + k) cv] 26, .row w.heap.size 41 2 (.slice Av (tt.length + k) cv) (tt.length + k) (cat css), .blk W6.heap.size #[.int .i64 m, .slice A6 fr.length c6] 26, .row w.heap.size 41 2 (.slice A6 fr.length c6) fr.length (cat dss), .blk Wq.heap.size #[.int .i64 (tt.length : Int)] 3, .blk W3.heap.size #[.slice (some ⟨b, o, none⟩) l.length c3] 48, .blk (w.heap.size + 1 + 1 + 1 + 1 + 1) #[.int .i64 0, .int .i64 0] 31, .blk (w.heap.size + 1 + 1 + 1 + 1) #[.int .i64 0, .slice none 0 0] 26, .blk (w.heap.size + 1 + 1 + 1) #[.int .i64 0, .slice none 0 0] 26, .blk (w.heap.size + 1 + 1) #[.int .i64 m2, .slice B tt.length d] 26, .blk (w.heap.size + 1) #[.int .i64 v.k, .int .i64 v.n] 31, .blk w.heap.size #[.int .i64 m, .slice (some ⟨pb, po, none⟩) fr.length c] 26] := K'
                    replace HT := Lib.hid T'
                    replace HF := Lib.hid (HF.out.move K')
                    replace HTt := Lib.hid (HTt.out.move K')
                    replace Hl := Lib.hid (Hl.out.move (by decide) K')
                    replace Hr := Lib.hid (Hr.out.move (by decide) K')
                    clear T' K'
                    replace Hv : Hid (RdSl vE wp.drew (Fr w.heap.size [.blk wq.heap.size #[.slice Ao ob.fields.length co, .bool false] 41, .blk W7.heap.size #[.int .i64 m2, .slice Av (tt.length + k) cv] 26, .row w.heap.size 41 2 (.slice Av (tt.length + k) cv) (tt.length + k) (cat css), .blk W6.heap.size #[.int .i64 m, .slice A6 fr.length c6] 26, .row w.heap.size 41 2 (.slice A6 fr.length c6) fr.length (cat dss), .blk Wq.heap.size #[.int .i64 (tt.length : Int)] 3, .blk W3.heap.size #[.slice (some ⟨b, o, none⟩) l.length c3] 48, .blk (w.heap.size + 1 + 1 + 1 + 1 + 1) #[.int .i64 0, .int .i64 0] 31, .blk (w.heap.size + 1 + 1 + 1 + 1) #[.int .i64 0, .slice none 0 0] 26, .blk (w.heap.size + 1 + 1 + 1) #[.int .i64 0, .slice none 0 0] 26, .blk (w.heap.size + 1 + 1) #[.int .i64 m2, .slice B tt.length d] 26, .blk (w.heap.size + 1) #[.int .i64 v.k, .int .i64 v.n] 31, .blk w.heap.size #[.int .i64 m, .slice (some ⟨pb, po, none⟩) fr.length c] 26]) (.slice Ao ob.fields.length co) (ob.fields.map (newV (plM tt.length l)))) := Hv
                    generalize wp.drew = wf at *
                    obtain ⟨r_ob, q_ob, r_b, q_b, r_a, q_a, -, -, r_l, q_l, -⟩ := HT.out.rules
                    have z_ob : wq.heap.size < wf.heap.size := (HT.out.in_ 0 rfl rfl).2
                    have z_b : W7.heap.size < wf.heap.size := (HT.out.in_ 1 rfl rfl).2
                    have z_a : W6.heap.size < wf.heap.size := (HT.out.in_ 3 rfl rfl).2
                    have z_l : W3.heap.size < wf.heap.size := (HT.out.in_ 6 rfl rfl).2
                    go_wp2_with (at_builtin; go_loud (refine wpList_append_css rfl (.tmp 115) (.tmp 117) _ rfl (e := 41) (size := 2) (bytes := 32) Try.underlying24 infoO rfl (by omega) HT.out 2 rfl rfl [.slice Ao ob.fields.length co, .bool false] 41 rfl rfl (by simp [Value.oneCell']) (by unfold maxLen; omega) (by omega) (by omega) ?next))
                    case next =>
                      intro A9 c9 wg T' K' hs3
                      clear r_ob q_ob r_b q_b r_a q_a r_l q_l z_ob z_b z_a z_l
                      replace T' : St w.heap.size w wg [.blk wq.heap.size #[.slice Ao ob.fields.length co, .bool false] 41, .blk W7.heap.size #[.int .i64 m2, .slice Av (tt.length + k) cv] 26, .row w.heap.size 41 2 (.slice A9 (tt.length + k + 1) c9) (tt.length + k + 1) (cat (css ++ [[Value.slice Ao ob.fields.length co, Value.bool false]])), .blk W6.heap.size #[.int .i64 m, .slice A6 fr.length c6] 26, .row w.heap.size 41 2 (.slice A6 fr.length c6) fr.length (cat dss), .blk Wq.heap.size #[.int .i64 (tt.length : Int)] 3, .blk W3.heap.size #[.slice (some ⟨b, o, none⟩) l.length c3] 48, .blk (w.heap.size + 1 + 1 + 1 + 1 + 1) #[.int .i64 0, .int .i64 0] 31, .blk (w.heap.size + 1 + 1 + 1 + 1) #[.int .i64 0, .slice none 0 0] 26, .blk (w.heap.size + 1 + 1 + 1) #[.int .i64 0, .slice none 0 0] 26, .blk (w.heap.size + 1 + 1) #[.int .i64 m2, .slice B tt.length d] 26, .blk (w.heap.size + 1) #[.int .i64 v.k, .int .i64 v.n] 31, .blk w.heap.size #[.int .i64 m, .slice (some ⟨pb, po, none⟩) fr.length c] 26] := T'
                      replace K' : Keeps wf [.blk wq.heap.size #[.slice Ao ob.fields.length co, .bool false] 41, .blk W7.heap.size #[.int .i64 m2, .slice Av (tt.length + k) cv] 26, .row w.heap.size 41 2 (.slice Av (tt.length + k) cv) (tt.length + k) (cat css), .blk W6.heap.size #[.int .i64 m, .slice A6 fr.length c6] 26, .row w.heap.size 41 2 (.slice A6 fr.length c6) fr.length (cat dss), .blk Wq.heap.size #[.int .i64 (tt.length : Int)] 3, .blk W3.heap.size #[.slice (some ⟨b, o, none⟩) l.length c3] 48, .blk (w.heap.size + 1 + 1 + 1 + 1 + 1) #[.int .i64 0, .int .i64 0] 31, .blk (w.heap.size + 1 + 1 + 1 + 1) #[.int .i64 0, .slice none 0 0] 26, .blk (w.heap.size + 1 + 1 + 1) #[.int .i64 0, .slice none 0 0] 26, .blk (w.heap.size + 1 + 1) #[.int .i64 m2, .slice B tt.length d] 26, .blk (w.heap.size + 1) #[.int .i64 v.k, .int .i64 v.n] 31, .blk w.heap.size #[.int .i64 m, .slice (some ⟨pb, po, none⟩) fr.length c] 26] wg [.blk wq.heap.size #[.slice Ao ob.fields.length co, .bool false] 41, .blk W7.heap.size #[.int .i64 m2, .slice Av (tt.length + k) cv] 26, .row w.heap.size 41 2 (.slice A9 (tt.length + k + 1) c9) (tt.length + k + 1) (cat (css ++ [[Value.slice Ao ob.fields.length co, Value.bool false]])), .blk W6.heap.size #[.int .i64 m, .slice A6 fr.length c6] 26, .row w.heap.size 41 2 (.slice A6 fr.length c6) fr.length (cat dss), .blk Wq.heap.size #[.int .i64 (tt.length : Int)] 3, .blk W3.heap.size #[.slice (some ⟨b, o, none⟩) l.length c3] 48, .blk (w.heap.size + 1 + 1 + 1 + 1 + 1) #[.int .i64 0, .int .i64 0] 31, .blk (w.heap.size + 1 + 1 + 1 + 1) #[.int .i64 0, .slice none 0 0] 26, .blk (w.heap.size + 1 + 1 + 1) #[.int .i64 0, .slice none 0 0] 26, .blk (w.heap.size + 1 + 1) #[.int .i64 m2, .slice B tt.length d] 26, .blk (w.heap.size + 1) #[.int .i64 v.k, .int .i64 v.n] 31, .blk w.heap.size #[.int .i64 m, .slice (some ⟨pb, po, none⟩) fr.length c] 26] := K'
                      replace HT := Lib.hid T'
                      replace HF := Lib.hid (HF.out.move K')
                      replace HTt := Lib.hid (HTt.out.move K')
                      replace Hl := Lib.hid (Hl.out.move (by decide) K')
                      replace Hr := Lib.hid (Hr.out.move (by decide) K')
                      replace Hv := Lib.hid (Hv.out.move (by decide) K')
                      clear T' K'
                      replace hz : wq.heap.size + 1 ≤ wg.heap.size := by omega
                      replace hw : w.heap.size + 1 + 1 + 1 + 1 + 1 + 1 ≤ wg.heap.size := by omega
                      have hnew : Held obE wg (Fr w.heap.size [.blk wq.heap.size #[.slice Ao ob.fields.length co, .bool false] 41, .blk W7.heap.size #[.int .i64 m2, .slice Av (tt.length + k) cv] 26, .row w.heap.size 41 2 (.slice A9 (tt.length + k + 1) c9) (tt.length + k + 1) (cat (css ++ [[Value.slice Ao ob.fields.length co, Value.bool false]])), .blk W6.heap.size #[.int .i64 m, .slice A6 fr.length c6] 26, .row w.heap.size 41 2 (.slice A6 fr.length c6) fr.length (cat dss), .blk Wq.heap.size #[.int .i64 (tt.length : Int)] 3, .blk W3.heap.size #[.slice (some ⟨b, o, none⟩) l.length c3] 48, .blk (w.heap.size + 1 + 1 + 1 + 1 + 1) #[.int .i64 0, .int .i64 0] 31, .blk (w.heap.size + 1 + 1 + 1 + 1) #[.int .i64 0, .slice none 0 0] 26, .blk (w.heap.size + 1 + 1 + 1) #[.int .i64 0, .slice none 0 0] 26, .blk (w.heap.size + 1 + 1) #[.int .i64 m2, .slice B tt.length d] 26, .blk (w.heap.size + 1) #[.int .i64 v.k, .int .i64 v.n] 31, .blk w.heap.size #[.int .i64 m, .slice (some ⟨pb, po, none⟩) fr.length c] 26]) (css ++ [[Value.slice Ao ob.fields.length co, Value.bool false]]) (carr fr tt l (k + 1)) := by
                        rw [carr_next HX.out, Hfo.out]
                        exact HTt.out.append (Held.single (E := obE) (cs := [Value.slice Ao ob.fields.length co, Value.bool false]) (x := ⟨ob.fields.map (newV (plM tt.length l)), false⟩) rfl ⟨_, rfl, by simpa using Hv.out⟩)
                      replace HTt := Lib.hid hnew
                      clear hnew
                      cases move
                      · obtain ⟨-, -, r_b, q_b, -⟩ := HT.out.rules
                        have z_b : W7.heap.size < wg.heap.size := (HT.out.in_ 1 rfl rfl).2
                        go_wp2_with fail
                        clear r_b q_b z_b
                        obtain ⟨T', K'⟩ := HT.out.put 1 1 (.slice A9 (tt.length + k + 1) c9) rfl
                        replace T' : St w.heap.size w ((wg.setCell ⟨W7.heap.size, 1, none⟩ (.slice A9 (tt.length + k + 1) c9))) [.blk wq.heap.size #[.slice Ao ob.fields.length co, .bool false] 41, .blk W7.heap.size #[.int .i64 m2, .slice A9 (tt.length + k + 1) c9] 26, .row w.heap.size 41 2 (.slice A9 (tt.length + k + 1) c9) (tt.length + k + 1) (cat (css ++ [[Value.slice Ao ob.fields.length co, Value.bool false]])), .blk W6.heap.size #[.int .i64 m, .slice A6 fr.length c6] 26, .row w.heap.size 41 2 (.slice A6 fr.length c6) fr.length (cat dss), .blk Wq.heap.size #[.int .i64 (tt.length : Int)] 3, .blk W3.heap.size #[.slice (some ⟨b, o, none⟩) l.length c3] 48, .blk (w.heap.size + 1 + 1 + 1 + 1 + 1) #[.int .i64 0, .int .i64 0] 31, .blk (w.heap.size + 1 + 1 + 1 + 1) #[.int .i64 0, .slice none 0 0] 26, .blk (w.heap.size + 1 + 1 + 1) #[.int .i64 0, .slice none 0 0] 26, .blk (w.heap.size + 1 + 1) #[.int .i64 m2, .slice B tt.length d] 26, .blk (w.heap.size + 1) #[.int .i64 v.k, .int .i64 v.n] 31, .blk w.heap.size #[.int .i64 m, .slice (some ⟨pb, po, none⟩) fr.length c] 26] := T'
                        replace K' : Keeps wg [.blk wq.heap.size #[.slice Ao ob.fields.length co, .bool false] 41, .blk W7.heap.size #[.int .i64 m2, .slice Av (tt.length + k) cv] 26, .row w.heap.size 41 2 (.slice A9 (tt.length + k + 1) c9) (tt.length + k + 1) (cat (css ++ [[Value.slice Ao ob.fields.length co, Value.bool false]])), .blk W6.heap.size #[.int .i64 m, .slice A6 fr.length c6] 26, .row w.heap.size 41 2 (.slice A6 fr.length c6) fr.length (cat dss), .blk Wq.heap.size #[.int .i64 (tt.length : Int)] 3, .blk W3.heap.size #[.slice (some ⟨b, o, none⟩) l.length c3] 48, .blk (w.heap.size + 1 + 1 + 1 + 1 + 1) #[.int .i64 0, .int .i64 0] 31, .blk (w.heap.size + 1 + 1 + 1 + 1) #[.int .i64 0, .slice none 0 0] 26, .blk (w.heap.size + 1 + 1 + 1) #[.int .i64 0, .slice none 0 0] 26, .blk (w.heap.size + 1 + 1) #[.int .i64 m2, .slice B tt.length d] 26, .blk (w.heap.size + 1) #[.int .i64 v.k, .int .i64 v.n] 31, .blk w.heap.size #[.int .i64 m, .slice (some ⟨pb, po, none⟩) fr.length c] 26] ((wg.setCell ⟨W7.heap.size, 1, none⟩ (.slice A9 (tt.length + k + 1) c9))) [.blk wq.heap.size #[.slice Ao ob.fields.length co, .bool false] 41, .blk W7.heap.size #[.int .i64 m2, .slice A9 (tt.length + k + 1) c9] 26, .row w.heap.size 41 2 (.slice A9 (tt.length + k + 1) c9) (tt.length + k + 1) (cat (css ++ [[Value.slice Ao ob.fields.length co, Value.bool false]])), .blk W6.heap.size #[.int .i64 m, .slice A6 fr.length c6] 26, .row w.heap.size 41 2 (.slice A6 fr.length c6) fr.length (cat dss), .blk Wq.heap.size #[.int .i64 (tt.length : Int)] 3, .blk W3.heap.size #[.slice (some ⟨b, o, none⟩) l.length c3] 48, .blk (w.heap.size + 1 + 1 + 1 + 1 + 1) #[.int .i64 0, .int .i64 0] 31, .blk (w.heap.size + 1 + 1 + 1 + 1) #[.int .i64 0, .slice none 0 0] 26, .blk (w.heap.size + 1 + 1 + 1) #[.int .i64 0, .slice none 0 0] 26, .blk (w.heap.size + 1 + 1) #[.int .i64 m2, .slice B tt.length d] 26, .blk (w.heap.size + 1) #[.int .i64 v.k, .int .i64 v.n] 31, .blk w.heap.size #[.int .i64 m, .slice (some ⟨pb, po, none⟩) fr.length c] 26] := K'
                        replace HT := Lib.hid T'
                        replace HF := Lib.hid (HF.out.move K')
                        replace HTt := Lib.hid (HTt.out.move K')
                        replace Hl := Lib.hid (Hl.out.move (by decide) K')
                        replace Hr := Lib.hid (Hr.out.move (by decide) K')
                        replace Hv := Lib.hid (Hv.out.move (by decide) K')
                        clear T' K'
                        replace hz : wq.heap.size + 1 ≤ ((wg.setCell ⟨W7.heap.size, 1, none⟩ (.slice A9 (tt.length + k + 1) c9))).heap.size := by simpa using hz
                        replace hw : w.heap.size + 1 + 1 + 1 + 1 + 1 + 1 ≤ ((wg.setCell ⟨W7.heap.size, 1, none⟩ (.slice A9 (tt.length + k + 1) c9))).heap.size := by simpa using hw
                        generalize wg.setCell ⟨W7.heap.size, 1, none⟩ (.slice A9 (tt.length + k + 1) c9) = wh at *
                        obtain ⟨T', K'⟩ := HT.out.drop 0
                        replace T' : St w.heap.size w wh [.blk W7.heap.size #[.int .i64 m2, .slice A9 (tt.length + k + 1) c9] 26, .row w.heap.size 41 2 (.slice A9 (tt.length + k + 1) c9) (tt.length + k + 1) (cat (css ++ [[Value.slice Ao ob.fields.length co, Value.bool false]])), .blk W6.heap.size #[.int .i64 m, .slice A6 fr.length c6] 26, .row w.heap.size 41 2 (.slice A6 fr.length c6) fr.length (cat dss), .blk Wq.heap.size #[.int .i64 (tt.length : Int)] 3, .blk W3.heap.size #[.slice (some ⟨b, o, none⟩) l.length c3] 48, .blk (w.heap.size + 1 + 1 + 1 + 1 + 1) #[.int .i64 0, .int .i64 0] 31, .blk (w.heap.size + 1 + 1 + 1 + 1) #[.int .i64 0, .slice none 0 0] 26, .blk (w.heap.size + 1 + 1 + 1) #[.int .i64 0, .slice none 0 0] 26, .blk (w.heap.size + 1 + 1) #[.int .i64 m2, .slice B tt.length d] 26, .blk (w.heap.size + 1) #[.int .i64 v.k, .int .i64 v.n] 31, .blk w.heap.size #[.int .i64 m, .slice (some ⟨pb, po, none⟩) fr.length c] 26] := T'
                        replace K' : Keeps wh [.blk wq.heap.size #[.slice Ao ob.fields.length co, .bool false] 41, .blk W7.heap.size #[.int .i64 m2, .slice A9 (tt.length + k + 1) c9] 26, .row w.heap.size 41 2 (.slice A9 (tt.length + k + 1) c9) (tt.length + k + 1) (cat (css ++ [[Value.slice Ao ob.fields.length co, Value.bool false]])), .blk W6.heap.size #[.int .i64 m, .slice A6 fr.length c6] 26, .row w.heap.size 41 2 (.slice A6 fr.length c6) fr.length (cat dss), .blk Wq.heap.size #[.int .i64 (tt.length : Int)] 3, .blk W3.heap.size #[.slice (some ⟨b, o, none⟩) l.length c3] 48, .blk (w.heap.size + 1 + 1 + 1 + 1 + 1) #[.int .i64 0, .int .i64 0] 31, .blk (w.heap.size + 1 + 1 + 1 + 1) #[.int .i64 0, .slice none 0 0] 26, .blk (w.heap.size + 1 + 1 + 1) #[.int .i64 0, .slice none 0 0] 26, .blk (w.heap.size + 1 + 1) #[.int .i64 m2, .slice B tt.length d] 26, .blk (w.heap.size + 1) #[.int .i64 v.k, .int .i64 v.n] 31, .blk w.heap.size #[.int .i64 m, .slice (some ⟨pb, po, none⟩) fr.length c] 26] wh [.blk W7.heap.size #[.int .i64 m2, .slice A9 (tt.length + k + 1) c9] 26, .row w.heap.size 41 2 (.slice A9 (tt.length + k + 1) c9) (tt.length + k + 1) (cat (css ++ [[Value.slice Ao ob.fields.length co, Value.bool false]])), .blk W6.heap.size #[.int .i64 m, .slice A6 fr.length c6] 26, .row w.heap.size 41 2 (.slice A6 fr.length c6) fr.length (cat dss), .blk Wq.heap.size #[.int .i64 (tt.length : Int)] 3, .blk W3.heap.size #[.slice (some ⟨b, o, none⟩) l.length c3] 48, .blk (w.heap.size + 1 + 1 + 1 + 1 + 1) #[.int .i64 0, .int .i64 0] 31, .blk (w.heap.size + 1 + 1 + 1 + 1) #[.int .i64 0, .slice none 0 0] 26, .blk (w.heap.size + 1 + 1 + 1) #[.int .i64 0, .slice none 0 0] 26, .blk (w.heap.size + 1 + 1) #[.int .i64 m2, .slice B tt.length d] 26, .blk (w.heap.size + 1) #[.int .i64 v.k, .int .i64 v.n] 31, .blk w.heap.size #[.int .i64 m, .slice (some ⟨pb, po, none⟩) fr.length c] 26] := K'
                        replace HT := Lib.hid T'
                        replace HF := Lib.hid (HF.out.move K')
                        replace HTt := Lib.hid (HTt.out.move K')
                        replace Hl := Lib.hid (Hl.out.move (by decide) K')
                        replace Hr := Lib.hid (Hr.out.move (by decide) K')
                        replace Hv := Lib.hid (Hv.out.move (by decide) K')
                        clear T' K'
                        replace hz : W7.heap.size + 1 ≤ wh.heap.size := by omega
                        clear Hv
                        have hf0 := HF.out
                        go_roundw
                        case rel =>
                          refine ⟨k + 1, .slice A9 (tt.length + k + 1) c9, css ++ [[Value.slice Ao ob.fields.length co, Value.bool false]], dss, by omega, by go_num, ?_, ?_, ?_, ?_, ?_, hz, hw⟩
                          · exact HT.out
                          · exact HTt.out
                          · exact HF.out
                          · exact Hr.out
                          · exact Hl.out
                        case measure => simp [intOf]; omega
                      · obtain ⟨-, -, r_b, q_b, -⟩ := HT.out.rules
                        have z_b : W7.heap.size < wg.heap.size := (HT.out.in_ 1 rfl rfl).2
                        go_wp2_with fail
                        clear r_b q_b z_b
                        obtain ⟨T', K'⟩ := HT.out.put 1 1 (.slice A9 (tt.length + k + 1) c9) rfl
                        replace T' : St w.heap.size w ((wg.setCell ⟨W7.heap.size, 1, none⟩ (.slice A9 (tt.length + k + 1) c9))) [.blk wq.heap.size #[.slice Ao ob.fields.length co, .bool false] 41, .blk W7.heap.size #[.int .i64 m2, .slice A9 (tt.length + k + 1) c9] 26, .row w.heap.size 41 2 (.slice A9 (tt.length + k + 1) c9) (tt.length + k + 1) (cat (css ++ [[Value.slice Ao ob.fields.length co, Value.bool false]])), .blk W6.heap.size #[.int .i64 m, .slice A6 fr.length c6] 26, .row w.heap.size 41 2 (.slice A6 fr.length c6) fr.length (cat dss), .blk Wq.heap.size #[.int .i64 (tt.length : Int)] 3, .blk W3.heap.size #[.slice (some ⟨b, o, none⟩) l.length c3] 48, .blk (w.heap.size + 1 + 1 + 1 + 1 + 1) #[.int .i64 0, .int .i64 0] 31, .blk (w.heap.size + 1 + 1 + 1 + 1) #[.int .i64 0, .slice none 0 0] 26, .blk (w.heap.size + 1 + 1 + 1) #[.int .i64 0, .slice none 0 0] 26, .blk (w.heap.size + 1 + 1) #[.int .i64 m2, .slice B tt.length d] 26, .blk (w.heap.size + 1) #[.int .i64 v.k, .int .i64 v.n] 31, .blk w.heap.size #[.int .i64 m, .slice (some ⟨pb, po, none⟩) fr.length c] 26] := T'
                        replace K' : Keeps wg [.blk wq.heap.size #[.slice Ao ob.fields.length co, .bool false] 41, .blk W7.heap.size #[.int .i64 m2, .slice Av (tt.length + k) cv] 26, .row w.heap.size 41 2 (.slice A9 (tt.length + k + 1) c9) (tt.length + k + 1) (cat (css ++ [[Value.slice Ao ob.fields.length co, Value.bool false]])), .blk W6.heap.size #[.int .i64 m, .slice A6 fr.length c6] 26, .row w.heap.size 41 2 (.slice A6 fr.length c6) fr.length (cat dss), .blk Wq.heap.size #[.int .i64 (tt.length : Int)] 3, .blk W3.heap.size #[.slice (some ⟨b, o, none⟩) l.length c3] 48, .blk (w.heap.size + 1 + 1 + 1 + 1 + 1) #[.int .i64 0, .int .i64 0] 31, .blk (w.heap.size + 1 + 1 + 1 + 1) #[.int .i64 0, .slice none 0 0] 26, .blk (w.heap.size + 1 + 1 + 1) #[.int .i64 0, .slice none 0 0] 26, .blk (w.heap.size + 1 + 1) #[.int .i64 m2, .slice B tt.length d] 26, .blk (w.heap.size + 1) #[.int .i64 v.k, .int .i64 v.n] 31, .blk w.heap.size #[.int .i64 m, .slice (some ⟨pb, po, none⟩) fr.length c] 26] ((wg.setCell ⟨W7.heap.size, 1, none⟩ (.slice A9 (tt.length + k + 1) c9))) [.blk wq.heap.size #[.slice Ao ob.fields.length co, .bool false] 41, .blk W7.heap.size #[.int .i64 m2, .slice A9 (tt.length + k + 1) c9] 26, .row w.heap.size 41 2 (.slice A9 (tt.length + k + 1) c9) (tt.length + k + 1) (cat (css ++ [[Value.slice Ao ob.fields.length co, Value.bool false]])), .blk W6.heap.size #[.int .i64 m, .slice A6 fr.length c6] 26, .row w.heap.size 41 2 (.slice A6 fr.length c6) fr.length (cat dss), .blk Wq.heap.size #[.int .i64 (tt.length : Int)] 3, .blk W3.heap.size #[.slice (some ⟨b, o, none⟩) l.length c3] 48, .blk (w.heap.size + 1 + 1 + 1 + 1 + 1) #[.int .i64 0, .int .i64 0] 31, .blk (w.heap.size + 1 + 1 + 1 + 1) #[.int .i64 0, .slice none 0 0] 26, .blk (w.heap.size + 1 + 1 + 1) #[.int .i64 0, .slice none 0 0] 26, .blk (w.heap.size + 1 + 1) #[.int .i64 m2, .slice B tt.length d] 26, .blk (w.heap.size + 1) #[.int .i64 v.k, .int .i64 v.n] 31, .blk w.heap.size #[.int .i64 m, .slice (some ⟨pb, po, none⟩) fr.length c] 26] := K'
                        replace HT := Lib.hid T'
                        replace HF := Lib.hid (HF.out.move K')
                        replace HTt := Lib.hid (HTt.out.move K')
                        replace Hl := Lib.hid (Hl.out.move (by decide) K')
                        replace Hr := Lib.hid (Hr.out.move (by decide) K')
                        replace Hv := Lib.hid (Hv.out.move (by decide) K')
                        clear T' K'
                        replace hz : wq.heap.size + 1 ≤ ((wg.setCell ⟨W7.heap.size, 1, none⟩ (.slice A9 (tt.length + k + 1) c9))).heap.size := by simpa using hz
                        replace hw : w.heap.size + 1 + 1 + 1 + 1 + 1 + 1 ≤ ((wg.setCell ⟨W7.heap.size, 1, none⟩ (.slice A9 (tt.length + k + 1) c9))).heap.size := by simpa using hw
                        generalize wg.setCell ⟨W7.heap.size, 1, none⟩ (.slice A9 (tt.length + k + 1) c9) = wh at *
                        obtain ⟨T', K'⟩ := HT.out.drop 0
                        replace T' : St w.heap.size w wh [.blk W7.heap.size #[.int .i64 m2, .slice A9 (tt.length + k + 1) c9] 26, .row w.heap.size 41 2 (.slice A9 (tt.length + k + 1) c9) (tt.length + k + 1) (cat (css ++ [[Value.slice Ao ob.fields.length co, Value.bool false]])), .blk W6.heap.size #[.int .i64 m, .slice A6 fr.length c6] 26, .row w.heap.size 41 2 (.slice A6 fr.length c6) fr.length (cat dss), .blk Wq.heap.size #[.int .i64 (tt.length : Int)] 3, .blk W3.heap.size #[.slice (some ⟨b, o, none⟩) l.length c3] 48, .blk (w.heap.size + 1 + 1 + 1 + 1 + 1) #[.int .i64 0, .int .i64 0] 31, .blk (w.heap.size + 1 + 1 + 1 + 1) #[.int .i64 0, .slice none 0 0] 26, .blk (w.heap.size + 1 + 1 + 1) #[.int .i64 0, .slice none 0 0] 26, .blk (w.heap.size + 1 + 1) #[.int .i64 m2, .slice B tt.length d] 26, .blk (w.heap.size + 1) #[.int .i64 v.k, .int .i64 v.n] 31, .blk w.heap.size #[.int .i64 m, .slice (some ⟨pb, po, none⟩) fr.length c] 26] := T'
                        replace K' : Keeps wh [.blk wq.heap.size #[.slice Ao ob.fields.length co, .bool false] 41, .blk W7.heap.size #[.int .i64 m2, .slice A9 (tt.length + k + 1) c9] 26, .row w.heap.size 41 2 (.slice A9 (tt.length + k + 1) c9) (tt.length + k + 1) (cat (css ++ [[Value.slice Ao ob.fields.length co, Value.bool false]])), .blk W6.heap.size #[.int .i64 m, .slice A6 fr.length c6] 26, .row w.heap.size 41 2 (.slice A6 fr.length c6) fr.length (cat dss), .blk Wq.heap.size #[.int .i64 (tt.length : Int)] 3, .blk W3.heap.size #[.slice (some ⟨b, o, none⟩) l.length c3] 48, .blk (w.heap.size + 1 + 1 + 1 + 1 + 1) #[.int .i64 0, .int .i64 0] 31, .blk (w.heap.size + 1 + 1 + 1 + 1) #[.int .i64 0, .slice none 0 0] 26, .blk (w.heap.size + 1 + 1 + 1) #[.int .i64 0, .slice none 0 0] 26, .blk (w.heap.size + 1 + 1) #[.int .i64 m2, .slice B tt.length d] 26, .blk (w.heap.size + 1) #[.int .i64 v.k, .int .i64 v.n] 31, .blk w.heap.size #[.int .i64 m, .slice (some ⟨pb, po, none⟩) fr.length c] 26] wh [.blk W7.heap.size #[.int .i64 m2, .slice A9 (tt.length + k + 1) c9] 26, .row w.heap.size 41 2 (.slice A9 (tt.length + k + 1) c9) (tt.length + k + 1) (cat (css ++ [[Value.slice Ao ob.fields.length co, Value.bool false]])), .blk W6.heap.size #[.int .i64 m, .slice A6 fr.length c6] 26, .row w.heap.size 41 2 (.slice A6 fr.length c6) fr.length (cat dss), .blk Wq.heap.size #[.int .i64 (tt.length : Int)] 3, .blk W3.heap.size #[.slice (some ⟨b, o, none⟩) l.length c3] 48, .blk (w.heap.size + 1 + 1 + 1 + 1 + 1) #[.int .i64 0, .int .i64 0] 31, .blk (w.heap.size + 1 + 1 + 1 + 1) #[.int .i64 0, .slice none 0 0] 26, .blk (w.heap.size + 1 + 1 + 1) #[.int .i64 0, .slice none 0 0] 26, .blk (w.heap.size + 1 + 1) #[.int .i64 m2, .slice B tt.length d] 26, .blk (w.heap.size + 1) #[.int .i64 v.k, .int .i64 v.n] 31, .blk w.heap.size #[.int .i64 m, .slice (some ⟨pb, po, none⟩) fr.length c] 26] := K'
                        replace HT := Lib.hid T'
                        replace HF := Lib.hid (HF.out.move K')
                        replace HTt := Lib.hid (HTt.out.move K')
                        replace Hl := Lib.hid (Hl.out.move (by decide) K')
                        replace Hr := Lib.hid (Hr.out.move (by decide) K')
                        replace Hv := Lib.hid (Hv.out.move (by decide) K')
                        clear T' K'
                        replace hz : W7.heap.size + 1 ≤ wh.heap.size := by omega
                        clear Hv
                        obtain ⟨g6, rfl, _⟩ := own_pos (HT.out.own 3 rfl) (by omega)
                        have hck : j < dss.length := by rw [HF.out.len, movedL_len]; omega
                        obtain ⟨ua, ub, hcs⟩ := HF.out.two rfl hck
                        have yT0 := HT.out.rowCell 3 rfl HF.out.size (j := 0) hcs rfl
                        have yT1 := HT.out.rowCell 3 rfl HF.out.size (j := 1) hcs rfl
                        rw [Nat.add_zero] at yT0
                        have qT := fun i => HT.out.rowFree 3 rfl i
                        have y0 := rd_i_at Hl.out HX.out
                        have Hcs := Lib.hid hcs
                        clear hcs
                        obtain ⟨-, -, r_a, q_a, -, -, r_l, q_l, -⟩ := HT.out.rules
                        have z_a : W6.heap.size < wh.heap.size := (HT.out.in_ 2 rfl rfl).2
                        have z_l : W3.heap.size < wh.heap.size := (HT.out.in_ 5 rfl rfl).2
                        go_wp2_with fail
                        refine wp_region_plan [.still [0, 1, 2, 3, 4, 5, 6, 7], .loud 8 []] (by kernel_rfl) (by kernel_rfl) ?_
                        refine plan_still ?_
                        simp only [pick, List.getElem?_toArray, List.getElem?_cons_succ, List.getElem?_cons_zero]
                        repeat still_step
                        refine wpStill_nil ?_
                        refine plan_loud ?_
                        simp only [pick, List.getElem?_toArray, List.getElem?_cons_succ, List.getElem?_cons_zero]
                        go_wp2_with fail
                        clear r_a q_a r_l q_l z_a z_l
                        clear qT yT0 yT1 y0
                        obtain ⟨T', K'⟩ := HT.out.rowPut2 3 j (.slice none 0 0) (.bool true) rfl HF.out.size hck
                        replace T' : St w.heap.size w (((wh.setCell ⟨g6, j * 2, none⟩ (.slice none 0 0)).setCell ⟨g6, j * 2 + 1, none⟩ (.bool true))) [.blk W7.heap.size #[.int .i64 m2, .slice A9 (tt.length + k + 1) c9] 26, .row w.heap.size 41 2 (.slice A9 (tt.length + k + 1) c9) (tt.length + k + 1) (cat (css ++ [[Value.slice Ao ob.fields.length co, Value.bool false]])), .blk W6.heap.size #[.int .i64 m, .slice (some ⟨g6, 0, none⟩) fr.length c6] 26, .row w.heap.size 41 2 (.slice (some ⟨g6, 0, none⟩) fr.length c6) fr.length (cat (dss.set j [.slice none 0 0, .bool true])), .blk Wq.heap.size #[.int .i64 (tt.length : Int)] 3, .blk W3.heap.size #[.slice (some ⟨b, o, none⟩) l.length c3] 48, .blk (w.heap.size + 1 + 1 + 1 + 1 + 1) #[.int .i64 0, .int .i64 0] 31, .blk (w.heap.size + 1 + 1 + 1 + 1) #[.int .i64 0, .slice none 0 0] 26, .blk (w.heap.size + 1 + 1 + 1) #[.int .i64 0, .slice none 0 0] 26, .blk (w.heap.size + 1 + 1) #[.int .i64 m2, .slice B tt.length d] 26, .blk (w.heap.size + 1) #[.int .i64 v.k, .int .i64 v.n] 31, .blk w.heap.size #[.int .i64 m, .slice (some ⟨pb, po, none⟩) fr.length c] 26] := T'
                        replace K' : Keeps wh [.blk W7.heap.size #[.int .i64 m2, .slice A9 (tt.length + k + 1) c9] 26, .row w.heap.size 41 2 (.slice A9 (tt.length + k + 1) c9) (tt.length + k + 1) (cat (css ++ [[Value.slice Ao ob.fields.length co, Value.bool false]])), .blk W6.heap.size #[.int .i64 m, .slice (some ⟨g6, 0, none⟩) fr.length c6] 26, .row w.heap.size 41 2 (.slice (some ⟨g6, 0, none⟩) fr.length c6) fr.length (cat dss), .blk Wq.heap.size #[.int .i64 (tt.length : Int)] 3, .blk W3.heap.size #[.slice (some ⟨b, o, none⟩) l.length c3] 48, .blk (w.heap.size + 1 + 1 + 1 + 1 + 1) #[.int .i64 0, .int .i64 0] 31, .blk (w.heap.size + 1 + 1 + 1 + 1) #[.int .i64 0, .slice none 0 0] 26, .blk (w.heap.size + 1 + 1 + 1) #[.int .i64 0, .slice none 0 0] 26, .blk (w.heap.size + 1 + 1) #[.int .i64 m2, .slice B tt.length d] 26, .blk (w.heap.size + 1) #[.int .i64 v.k, .int .i64 v.n] 31, .blk w.heap.size #[.int .i64 m, .slice (some ⟨pb, po, none⟩) fr.length c] 26] (((wh.setCell ⟨g6, j * 2, none⟩ (.slice none 0 0)).setCell ⟨g6, j * 2 + 1, none⟩ (.bool true))) [.blk W7.heap.size #[.int .i64 m2, .slice A9 (tt.length + k + 1) c9] 26, .row w.heap.size 41 2 (.slice A9 (tt.length + k + 1) c9) (tt.length + k + 1) (cat (css ++ [[Value.slice Ao ob.fields.length co, Value.bool false]])), .blk W6.heap.size #[.int .i64 m, .slice (some ⟨g6, 0, none⟩) fr.length c6] 26, .row w.heap.size 41 2 (.slice (some ⟨g6, 0, none⟩) fr.length c6) fr.length (cat (dss.set j [.slice none 0 0, .bool true])), .blk Wq.heap.size #[.int .i64 (tt.length : Int)] 3, .blk W3.heap.size #[.slice (some ⟨b, o, none⟩) l.length c3] 48, .blk (w.heap.size + 1 + 1 + 1 + 1 + 1) #[.int .i64 0, .int .i64 0] 31, .blk (w.heap.size + 1 + 1 + 1 + 1) #[.int .i64 0, .slice none 0 0] 26, .blk (w.heap.size + 1 + 1 + 1) #[.int .i64 0, .slice none 0 0] 26, .blk (w.heap.size + 1 + 1) #[.int .i64 m2, .slice B tt.length d] 26, .blk (w.heap.size + 1) #[.int .i64 v.k, .int .i64 v.n] 31, .blk w.heap.size #[.int .i64 m, .slice (some ⟨pb, po, none⟩) fr.length c] 26] := K'
                        replace HT := Lib.hid T'
                        replace HF := Lib.hid (HF.out.move K')
                        replace HTt := Lib.hid (HTt.out.move K')
                        replace Hl := Lib.hid (Hl.out.move (by decide) K')
                        replace Hr := Lib.hid (Hr.out.move (by decide) K')
                        clear T' K'
                        replace hz : W7.heap.size + 1 ≤ (((wh.setCell ⟨g6, j * 2, none⟩ (.slice none 0 0)).setCell ⟨g6, j * 2 + 1, none⟩ (.bool true))).heap.size := by simpa using hz
                        replace hw : w.heap.size + 1 + 1 + 1 + 1 + 1 + 1 ≤ (((wh.setCell ⟨g6, j * 2, none⟩ (.slice none 0 0)).setCell ⟨g6, j * 2 + 1, none⟩ (.bool true))).heap.size := by simpa using hw
                        generalize (wh.setCell ⟨g6, j * 2, none⟩ (.slice none 0 0)).setCell ⟨g6, j * 2 + 1, none⟩ (.bool true) = wk at *
                        refine ⟨trivial, ?_⟩
                        refine plan_end (NoPanic.normal ?_)
                        obtain ⟨T', K'⟩ := HT.out.drew'
                        replace T' : St w.heap.size w wk.drew [.blk W7.heap.size #[.int .i64 m2, .slice A9 (tt.length + k + 1) c9] 26, .row w.heap.size 41 2 (.slice A9 (tt.length + k + 1) c9) (tt.length + k + 1) (cat (css ++ [[Value.slice Ao ob.fields.length co, Value.bool false]])), .blk W6.heap.size #[.int .i64 m, .slice (some ⟨g6, 0, none⟩) fr.length c6] 26, .row w.heap.size 41 2 (.slice (some ⟨g6, 0, none⟩) fr.length c6) fr.length (cat (dss.set j [.slice none 0 0, .bool true])), .blk Wq.heap.size #[.int .i64 (tt.length : Int)] 3, .blk W3.heap.size #[.slice (some ⟨b, o, none⟩) l.length c3] 48, .blk (w.heap.size + 1 + 1 + 1 + 1 + 1) #[.int .i64 0, .int .i64 0] 31, .blk (w.heap.size + 1 + 1 + 1 + 1) #[.int .i64 0, .slice none 0 0] 26, .blk (w.heap.size + 1 + 1 + 1) #[.int .i64 0, .slice none 0 0] 26, .blk (w.heap.size + 1 + 1) #[.int .i64 m2, .slice B tt.length d] 26, .blk (w.heap.size + 1) #[.int .i64 v.k, .int .i64 v.n] 31, .blk w.heap.size #[.int .i64 m, .slice (some ⟨pb, po, none⟩) fr.length c] 26] := T'
                        replace K' : Keeps wk [.blk W7.heap.size #[.int .i64 m2, .slice A9 (tt.length + k + 1) c9] 26, .row w.heap.size 41 2 (.slice A9 (tt.length + k + 1) c9) (tt.length + k + 1) (cat (css ++ [[Value.slice Ao ob.fields.length co, Value.bool false]])), .blk W6.heap.size #[.int .i64 m, .slice (some ⟨g6, 0, none⟩) fr.length c6] 26, .row w.heap.size 41 2 (.slice (some ⟨g6, 0, none⟩) fr.length c6) fr.length (cat (dss.set j [.slice none 0 0, .bool true])), .blk Wq.heap.size #[.int .i64 (tt.length : Int)] 3, .blk W3.heap.size #[.slice (some ⟨b, o, none⟩) l.length c3] 48, .blk (w.heap.size + 1 + 1 + 1 + 1 + 1) #[.int .i64 0, .int .i64 0] 31, .blk (w.heap.size + 1 + 1 + 1 + 1) #[.int .i64 0, .slice none 0 0] 26, .blk (w.heap.size + 1 + 1 + 1) #[.int .i64 0, .slice none 0 0] 26, .blk (w.heap.size + 1 + 1) #[.int .i64 m2, .slice B tt.length d] 26, .blk (w.heap.size + 1) #[.int .i64 v.k, .int .i64 v.n] 31, .blk w.heap.size #[.int .i64 m, .slice (some ⟨pb, po, none⟩) fr.length c] 26] wk.drew [.blk W7.heap.size #[.int .i64 m2, .slice A9 (tt.length + k + 1) c9] 26, .row w.heap.size 41 2 (.slice A9 (tt.length + k + 1) c9) (tt.length + k + 1) (cat (css ++ [[Value.slice Ao ob.fields.length co, Value.bool false]])), .blk W6.heap.size #[.int .i64 m, .slice (some ⟨g6, 0, none⟩) fr.length c6] 26, .row w.heap.size 41 2 (.slice (some ⟨g6, 0, none⟩) fr.length c6) fr.length (cat (dss.set j [.slice none 0 0, .bool true])), .blk Wq.heap.size #[.int .i64 (tt.length : Int)] 3, .blk W3.heap.size #[.slice (some ⟨b, o, none⟩) l.length c3] 48, .blk (w.heap.size + 1 + 1 + 1 + 1 + 1) #[.int .i64 0, .int .i64 0] 31, .blk (w.heap.size + 1 + 1 + 1 + 1) #[.int .i64 0, .slice none 0 0] 26, .blk (w.heap.size + 1 + 1 + 1) #[.int .i64 0, .slice none 0 0] 26, .blk (w.heap.size + 1 + 1) #[.int .i64 m2, .slice B tt.length d] 26, .blk (w.heap.size + 1) #[.int .i64 v.k, .int .i64 v.n] 31, .blk w.heap.size #[.int .i64 m, .slice (some ⟨pb, po, none⟩) fr.length c] 26] := K'
                        replace HT := Lib.hid T'
                        replace HF := Lib.hid (HF.out.move K')
                        replace HTt := Lib.hid (HTt.out.move K')
                        replace Hl := Lib.hid (Hl.out.move (by decide) K')
                        replace Hr := Lib.hid (Hr.out.move (by decide) K')
                        clear T' K'
                        replace hz : W7.heap.size + 1 ≤ wk.drew.heap.size := hz
                        replace hw : w.heap.size + 1 + 1 + 1 + 1 + 1 + 1 ≤ wk.drew.heap.size := hw
                        have hset : Held obE wk.drew (Fr w.heap.size [.blk W7.heap.size #[.int .i64 m2, .slice A9 (tt.length + k + 1) c9] 26, .row w.heap.size 41 2 (.slice A9 (tt.length + k + 1) c9) (tt.length + k + 1) (cat (css ++ [[Value.slice Ao ob.fields.length co, Value.bool false]])), .blk W6.heap.size #[.int .i64 m, .slice (some ⟨g6, 0, none⟩) fr.length c6] 26, .row w.heap.size 41 2 (.slice (some ⟨g6, 0, none⟩) fr.length c6) fr.length (cat (dss.set j [.slice none 0 0, .bool true])), .blk Wq.heap.size #[.int .i64 (tt.length : Int)] 3, .blk W3.heap.size #[.slice (some ⟨b, o, none⟩) l.length c3] 48, .blk (w.heap.size + 1 + 1 + 1 + 1 + 1) #[.int .i64 0, .int .i64 0] 31, .blk (w.heap.size + 1 + 1 + 1 + 1) #[.int .i64 0, .slice none 0 0] 26, .blk (w.heap.size + 1 + 1 + 1) #[.int .i64 0, .slice none 0 0] 26, .blk (w.heap.size + 1 + 1) #[.int .i64 m2, .slice B tt.length d] 26, .blk (w.heap.size + 1) #[.int .i64 v.k, .int .i64 v.n] 31, .blk w.heap.size #[.int .i64 m, .slice (some ⟨pb, po, none⟩) fr.length c] 26]) (dss.set j [.slice none 0 0, .bool true]) (movedL fr (l.take (k + 1))) := by
                          rw [← movedL_take HX.out i3]
                          exact HF.out.set _ (x := ⟨[], true⟩) rfl ⟨_, rfl, RdSl.nil⟩
                        replace HF := Lib.hid hset
                        clear hset
                        go_wp2_with fail
                        go_roundw
                        case rel =>
                          refine ⟨k + 1, .slice A9 (tt.length + k + 1) c9, css ++ [[Value.slice Ao ob.fields.length co, Value.bool false]], dss.set j [.slice none 0 0, .bool true], by omega, by go_num, ?_, ?_, ?_, ?_, ?_, hz, hw⟩
                          · exact HT.out
                          · exact HTt.out
                          · exact HF.out
                          · exact Hr.out
                          · exact Hl.out
                        case measure => simp [intOf]; omega
              · have hkk : k = l.length := by omega
                subst hkk
                rw [List.take_length, carr_all] at *
                obtain ⟨Av, cv, rfl⟩ := own_form (HT.out.own 1 rfl)
                clear hk hlt
                obtain ⟨r_b, q_b, r_a, q_a, r_n, q_n, r_l, q_l, r_rV, q_rV, r_rB, q_rB, r_rA, q_rA, -, -, r_v, q_v, -⟩ := HT.out.rules
                have z_b : W7.heap.size < wq.heap.size := (HT.out.in_ 0 rfl rfl).2
                have z_a : W6.heap.size < wq.heap.size := (HT.out.in_ 2 rfl rfl).2
                have z_n : Wq.heap.size < wq.heap.size := (HT.out.in_ 4 rfl rfl).2
                have z_l : W3.heap.size < wq.heap.size := (HT.out.in_ 5 rfl rfl).2
                have z_rV : w.heap.size + 1 + 1 + 1 + 1 + 1 < wq.heap.size := (HT.out.in_ 6 rfl rfl).2
                have z_rB : w.heap.size + 1 + 1 + 1 + 1 < wq.heap.size := (HT.out.in_ 7 rfl rfl).2
                have z_rA : w.heap.size + 1 + 1 + 1 < wq.heap.size := (HT.out.in_ 8 rfl rfl).2
                have z_v : w.heap.size + 1 < wq.heap.size := (HT.out.in_ 10 rfl rfl).2
                go_wp2_with fail
                refine wp_region_plan [.still [0, 1, 2, 3], .loud 4 [0, 1], .loud 5 [1], .loud 6 [], .loud 7 [], .still [8]] (by kernel_rfl) (by kernel_rfl) ?_
                refine plan_still ?_
                simp only [pick, List.getElem?_toArray, List.getElem?_cons_succ, List.getElem?_cons_zero]
                repeat still_step
                refine wpStill_nil ?_
                refine plan_loud ?_
                simp only [pick, List.getElem?_toArray, List.getElem?_cons_succ, List.getElem?_cons_zero]
                go_wp2_with fail
                obtain ⟨T', K'⟩ := HT.out.drew'
                replace T' : St w.heap.size w wq.drew [.blk W7.heap.size #[.int .i64 m2, .slice Av (tt.length + l.length) cv] 26, .row w.heap.size 41 2 (.slice Av (tt.length + l.length) cv) (tt.length + l.length) (cat css), .blk W6.heap.size #[.int .i64 m, .slice A6 fr.length c6] 26, .row w.heap.size 41 2 (.slice A6 fr.length c6) fr.length (cat dss), .blk Wq.heap.size #[.int .i64 (tt.length : Int)] 3, .blk W3.heap.size #[.slice R3 l.length c3] 48, .blk (w.heap.size + 1 + 1 + 1 + 1 + 1) #[.int .i64 0, .int .i64 0] 31, .blk (w.heap.size + 1 + 1 + 1 + 1) #[.int .i64 0, .slice none 0 0] 26, .blk (w.heap.size + 1 + 1 + 1) #[.int .i64 0, .slice none 0 0] 26, .blk (w.heap.size + 1 + 1) #[.int .i64 m2, .slice B tt.length d] 26, .blk (w.heap.size + 1) #[.int .i64 v.k, .int .i64 v.n] 31, .blk w.heap.size #[.int .i64 m, .slice A fr.length c] 26] := T'
                replace K' : Keeps wq [.blk W7.heap.size #[.int .i64 m2, .slice Av (tt.length + l.length) cv] 26, .row w.heap.size 41 2 (.slice Av (tt.length + l.length) cv) (tt.length + l.length) (cat css), .blk W6.heap.size #[.int .i64 m, .slice A6 fr.length c6] 26, .row w.heap.size 41 2 (.slice A6 fr.length c6) fr.length (cat dss), .blk Wq.heap.size #[.int .i64 (tt.length : Int)] 3, .blk W3.heap.size #[.slice R3 l.length c3] 48, .blk (w.heap.size + 1 + 1 + 1 + 1 + 1) #[.int .i64 0, .int .i64 0] 31, .blk (w.heap.size + 1 + 1 + 1 + 1) #[.int .i64 0, .slice none 0 0] 26, .blk (w.heap.size + 1 + 1 + 1) #[.int .i64 0, .slice none 0 0] 26, .blk (w.heap.size + 1 + 1) #[.int .i64 m2, .slice B tt.length d] 26, .blk (w.heap.size + 1) #[.int .i64 v.k, .int .i64 v.n] 31, .blk w.heap.size #[.int .i64 m, .slice A fr.length c] 26] wq.drew [.blk W7.heap.size #[.int .i64 m2, .slice Av (tt.length + l.length) cv] 26, .row w.heap.size 41 2 (.slice Av (tt.length + l.length) cv) (tt.length + l.length) (cat css), .blk W6.heap.size #[.int .i64 m, .slice A6 fr.length c6] 26, .row w.heap.size 41 2 (.slice A6 fr.length c6) fr.length (cat dss), .blk Wq.heap.size #[.int .i64 (tt.length : Int)] 3, .blk W3.heap.size #[.slice R3 l.length c3] 48, .blk (w.heap.size + 1 + 1 + 1 + 1 + 1) #[.int .i64 0, .int .i64 0] 31, .blk (w.heap.size + 1 + 1 + 1 + 1) #[.int .i64 0, .slice none 0 0] 26, .blk (w.heap.size + 1 + 1 + 1) #[.int .i64 0, .slice none 0 0] 26, .blk (w.heap.size + 1 + 1) #[.int .i64 m2, .slice B tt.length d] 26, .blk (w.heap.size + 1) #[.int .i64 v.k, .int .i64 v.n] 31, .blk w.heap.size #[.int .i64 m, .slice A fr.length c] 26] := K'
                replace HT := Lib.hid T'
                replace HF := Lib.hid (HF.out.move K')
                replace HTt := Lib.hid (HTt.out.move K')
                replace Hl := Lib.hid (Hl.out.move (by decide) K')
                replace Hr := Lib.hid (Hr.out.move (by decide) K')
                clear T' K'
                replace hw : w.heap.size + 1 + 1 + 1 + 1 + 1 + 1 ≤ wq.drew.heap.size := hw
                replace hz : W7.heap.size + 1 ≤ wq.drew.heap.size := hz
                refine (fix_any tt.length _ _ _ l _ _ v _ (cell_of_row _ _ 0 _ _ _ (HT.out.heap 5 rfl)) (cell_of_row _ _ 0 _ _ _ (HT.out.heap 4 rfl)) Hl.out Hroot.out Htold.out.nodup (by omega)).mono ?_
                rintro e wf ⟨rfl, hb⟩
                clear r_b q_b r_a q_a r_n q_n r_l q_l r_rV q_rV r_rB q_rB r_rA q_rA r_v q_v z_b z_a z_n z_l z_rV z_rB z_rA z_v
                obtain ⟨T', K'⟩ := HT.out.call hb
                replace T' : St w.heap.size w wf [.blk W7.heap.size #[.int .i64 m2, .slice Av (tt.length + l.length) cv] 26, .row w.heap.size 41 2 (.slice Av (tt.length + l.length) cv) (tt.length + l.length) (cat css), .blk W6.heap.size #[.int .i64 m, .slice A6 fr.length c6] 26, .row w.heap.size 41 2 (.slice A6 fr.length c6) fr.length (cat dss), .blk Wq.heap.size #[.int .i64 (tt.length : Int)] 3, .blk W3.heap.size #[.slice R3 l.length c3] 48, .blk (w.heap.size + 1 + 1 + 1 + 1 + 1) #[.int .i64 0, .int .i64 0] 31, .blk (w.heap.size + 1 + 1 + 1 + 1) #[.int .i64 0, .slice none 0 0] 26, .blk (w.heap.size + 1 + 1 + 1) #[.int .i64 0, .slice none 0 0] 26, .blk (w.heap.size + 1 + 1) #[.int .i64 m2, .slice B tt.length d] 26, .blk (w.heap.size + 1) #[.int .i64 v.k, .int .i64 v.n] 31, .blk w.heap.size #[.int .i64 m, .slice A fr.length c] 26] := T'
                replace K' : Keeps wq.drew [.blk W7.heap.size #[.int .i64 m2, .slice Av (tt.length + l.length) cv] 26, .row w.heap.size 41 2 (.slice Av (tt.length + l.length) cv) (tt.length + l.length) (cat css), .blk W6.heap.size #[.int .i64 m, .slice A6 fr.length c6] 26, .row w.heap.size 41 2 (.slice A6 fr.length c6) fr.length (cat dss), .blk Wq.heap.size #[.int .i64 (tt.length : Int)] 3, .blk W3.heap.size #[.slice R3 l.length c3] 48, .blk (w.heap.size + 1 + 1 + 1 + 1 + 1) #[.int .i64 0, .int .i64 0] 31, .blk (w.heap.size + 1 + 1 + 1 + 1) #[.int .i64 0, .slice none 0 0] 26, .blk (w.heap.size + 1 + 1 + 1) #[.int .i64 0, .slice none 0 0] 26, .blk (w.heap.size + 1 + 1) #[.int .i64 m2, .slice B tt.length d] 26, .blk (w.heap.size + 1) #[.int .i64 v.k, .int .i64 v.n] 31, .blk w.heap.size #[.int .i64 m, .slice A fr.length c] 26] wf [.blk W7.heap.size #[.int .i64 m2, .slice Av (tt.length + l.length) cv] 26, .row w.heap.size 41 2 (.slice Av (tt.length + l.length) cv) (tt.length + l.length) (cat css), .blk W6.heap.size #[.int .i64 m, .slice A6 fr.length c6] 26, .row w.heap.size 41 2 (.slice A6 fr.length c6) fr.length (cat dss), .blk Wq.heap.size #[.int .i64 (tt.length : Int)] 3, .blk W3.heap.size #[.slice R3 l.length c3] 48, .blk (w.heap.size + 1 + 1 + 1 + 1 + 1) #[.int .i64 0, .int .i64 0] 31, .blk (w.heap.size + 1 + 1 + 1 + 1) #[.int .i64 0, .slice none 0 0] 26, .blk (w.heap.size + 1 + 1 + 1) #[.int .i64 0, .slice none 0 0] 26, .blk (w.heap.size + 1 + 1) #[.int .i64 m2, .slice B tt.length d] 26, .blk (w.heap.size + 1) #[.int .i64 v.k, .int .i64 v.n] 31, .blk w.heap.size #[.int .i64 m, .slice A fr.length c] 26] := K'
                replace HT := Lib.hid T'
                replace HF := Lib.hid (HF.out.move K')
                replace HTt := Lib.hid (HTt.out.move K')
                replace Hl := Lib.hid (Hl.out.move (by decide) K')
                replace Hr := Lib.hid (Hr.out.move (by decide) K')
                clear T' K'
                replace hw : w.heap.size + 1 + 1 + 1 + 1 + 1 + 1 ≤ wf.heap.size := Nat.le_trans hw hb.size
                replace hz : W7.heap.size + 1 ≤ wf.heap.size := Nat.le_trans hz hb.size
                clear hb
                obtain ⟨r_b, q_b, r_a, q_a, r_n, q_n, r_l, q_l, r_rV, q_rV, r_rB, q_rB, r_rA, q_rA, -, -, r_v, q_v, -⟩ := HT.out.rules
                have z_b : W7.heap.size < wf.heap.size := (HT.out.in_ 0 rfl rfl).2
                have z_a : W6.heap.size < wf.heap.size := (HT.out.in_ 2 rfl rfl).2
                have z_n : Wq.heap.size < wf.heap.size := (HT.out.in_ 4 rfl rfl).2
                have z_l : W3.heap.size < wf.heap.size := (HT.out.in_ 5 rfl rfl).2
                have z_rV : w.heap.size + 1 + 1 + 1 + 1 + 1 < wf.heap.size := (HT.out.in_ 6 rfl rfl).2
                have z_rB : w.heap.size + 1 + 1 + 1 + 1 < wf.heap.size := (HT.out.in_ 7 rfl rfl).2
                have z_rA : w.heap.size + 1 + 1 + 1 < wf.heap.size := (HT.out.in_ 8 rfl rfl).2
                have z_v : w.heap.size + 1 < wf.heap.size := (HT.out.in_ 10 rfl rfl).2
                go_wp2_with fail
                refine ⟨?_, ?_⟩
                · simp only [Again, pick, List.getElem?_toArray, List.getElem?_cons_succ, List.getElem?_cons_zero]
                  refine ⟨?_, ?_, trivial⟩
                  all_goals (still_step; exact wpStill_nil rfl)
                refine plan_loud ?_
                simp only [pick, List.getElem?_toArray, List.getElem?_cons_succ, List.getElem?_cons_zero]
                go_wp2_with fail
                clear r_b q_b r_a q_a r_n q_n r_l q_l r_rV q_rV r_rB q_rB r_rA q_rA r_v q_v z_b z_a z_n z_l z_rV z_rB z_rA z_v
                obtain ⟨T', K'⟩ := HT.out.put2 8 (.int .i64 m) (.slice A6 fr.length c6) rfl rfl
                replace T' : St w.heap.size w (((wf.setCell ⟨w.heap.size + 1 + 1 + 1, 0, none⟩ (.int .i64 m)).setCell ⟨w.heap.size + 1 + 1 + 1, 1, none⟩ (.slice A6 fr.length c6))) [.blk W7.heap.size #[.int .i64 m2, .slice Av (tt.length + l.length) cv] 26, .row w.heap.size 41 2 (.slice Av (tt.length + l.length) cv) (tt.length + l.length) (cat css), .blk W6.heap.size #[.int .i64 m, .slice A6 fr.length c6] 26, .row w.heap.size 41 2 (.slice A6 fr.length c6) fr.length (cat dss), .blk Wq.heap.size #[.int .i64 (tt.length : Int)] 3, .blk W3.heap.size #[.slice R3 l.length c3] 48, .blk (w.heap.size + 1 + 1 + 1 + 1 + 1) #[.int .i64 0, .int .i64 0] 31, .blk (w.heap.size + 1 + 1 + 1 + 1) #[.int .i64 0, .slice none 0 0] 26, .blk (w.heap.size + 1 + 1 + 1) #[.int .i64 m, .slice A6 fr.length c6] 26, .blk (w.heap.size + 1 + 1) #[.int .i64 m2, .slice B tt.length d] 26, .blk (w.heap.size + 1) #[.int .i64 v.k, .int .i64 v.n] 31, .blk w.heap.size #[.int .i64 m, .slice A fr.length c] 26] := T'
                replace K' : Keeps wf [.blk W7.heap.size #[.int .i64 m2, .slice Av (tt.length + l.length) cv] 26, .row w.heap.size 41 2 (.slice Av (tt.length + l.length) cv) (tt.length + l.length) (cat css), .blk W6.heap.size #[.int .i64 m, .slice A6 fr.length c6] 26, .row w.heap.size 41 2 (.slice A6 fr.length c6) fr.length (cat dss), .blk Wq.heap.size #[.int .i64 (tt.length : Int)] 3, .blk W3.heap.size #[.slice R3 l.length c3] 48, .blk (w.heap.size + 1 + 1 + 1 + 1 + 1) #[.int .i64 0, .int .i64 0] 31, .blk (w.heap.size + 1 + 1 + 1 + 1) #[.int .i64 0, .slice none 0 0] 26, .blk (w.heap.size + 1 + 1 + 1) #[.int .i64 0, .slice none 0 0] 26, .blk (w.heap.size + 1 + 1) #[.int .i64 m2, .slice B tt.length d] 26, .blk (w.heap.size + 1) #[.int .i64 v.k, .int .i64 v.n] 31, .blk w.heap.size #[.int .i64 m, .slice A fr.length c] 26] (((wf.setCell ⟨w.heap.size + 1 + 1 + 1, 0, none⟩ (.int .i64 m)).setCell ⟨w.heap.size + 1 + 1 + 1, 1, none⟩ (.slice A6 fr.length c6))) [.blk W7.heap.size #[.int .i64 m2, .slice Av (tt.length + l.length) cv] 26, .row w.heap.size 41 2 (.slice Av (tt.length + l.length) cv) (tt.length + l.length) (cat css), .blk W6.heap.size #[.int .i64 m, .slice A6 fr.length c6] 26, .row w.heap.size 41 2 (.slice A6 fr.length c6) fr.length (cat dss), .blk Wq.heap.size #[.int .i64 (tt.length : Int)] 3, .blk W3.heap.size #[.slice R3 l.length c3] 48, .blk (w.heap.size + 1 + 1 + 1 + 1 + 1) #[.int .i64 0, .int .i64 0] 31, .blk (w.heap.size + 1 + 1 + 1 + 1) #[.int .i64 0, .slice none 0 0] 26, .blk (w.heap.size + 1 + 1 + 1) #[.int .i64 m, .slice A6 fr.length c6] 26, .blk (w.heap.size + 1 + 1) #[.int .i64 m2, .slice B tt.length d] 26, .blk (w.heap.size + 1) #[.int .i64 v.k, .int .i64 v.n] 31, .blk w.heap.size #[.int .i64 m, .slice A fr.length c] 26] := K'
                replace HT := Lib.hid T'
                replace HF := Lib.hid (HF.out.move K')
                replace HTt := Lib.hid (HTt.out.move K')
                replace Hl := Lib.hid (Hl.out.move (by decide) K')
                replace Hr := Lib.hid (Hr.out.move (by decide) K')
                clear T' K'
                replace hw : w.heap.size + 1 + 1 + 1 + 1 + 1 + 1 ≤ (((wf.setCell ⟨w.heap.size + 1 + 1 + 1, 0, none⟩ (.int .i64 m)).setCell ⟨w.heap.size + 1 + 1 + 1, 1, none⟩ (.slice A6 fr.length c6))).heap.size := by simpa using hw
                replace hz : W7.heap.size + 1 ≤ (((wf.setCell ⟨w.heap.size + 1 + 1 + 1, 0, none⟩ (.int .i64 m)).setCell ⟨w.heap.size + 1 + 1 + 1, 1, none⟩ (.slice A6 fr.length c6))).heap.size := by simpa using hz
                generalize (wf.setCell ⟨w.heap.size + 1 + 1 + 1, 0, none⟩ (.int .i64 m)).setCell ⟨w.heap.size + 1 + 1 + 1, 1, none⟩ (.slice A6 fr.length c6) = wg1 at *
                obtain ⟨r_b, q_b, r_a, q_a, r_n, q_n, r_l, q_l, r_rV, q_rV, r_rB, q_rB, r_rA, q_rA, -, -, r_v, q_v, -⟩ := HT.out.rules
                have z_b : W7.heap.size < wg1.heap.size := (HT.out.in_ 0 rfl rfl).2
                have z_a : W6.heap.size < wg1.heap.size := (HT.out.in_ 2 rfl rfl).2
                have z_n : Wq.heap.size < wg1.heap.size := (HT.out.in_ 4 rfl rfl).2
                have z_l : W3.heap.size < wg1.heap.size := (HT.out.in_ 5 rfl rfl).2
                have z_rV : w.heap.size + 1 + 1 + 1 + 1 + 1 < wg1.heap.size := (HT.out.in_ 6 rfl rfl).2
                have z_rB : w.heap.size + 1 + 1 + 1 + 1 < wg1.heap.size := (HT.out.in_ 7 rfl rfl).2
                have z_rA : w.heap.size + 1 + 1 + 1 < wg1.heap.size := (HT.out.in_ 8 rfl rfl).2
                have z_v : w.heap.size + 1 < wg1.heap.size := (HT.out.in_ 10 rfl rfl).2
                refine ⟨?_, ?_⟩
                · simp only [Again, pick, List.getElem?_toArray, List.getElem?_cons_succ, List.getElem?_cons_zero]
                  refine ⟨?_, trivial⟩
                  all_goals (still_step; exact wpStill_nil rfl)
                refine plan_loud ?_
                simp only [pick, List.getElem?_toArray, List.getElem?_cons_succ, List.getElem?_cons_zero]
                go_wp2_with fail
                clear r_b q_b r_a q_a r_n q_n r_l q_l r_rV q_rV r_rB q_rB r_rA q_rA r_v q_v z_b z_a z_n z_l z_rV z_rB z_rA z_v
                obtain ⟨T', K'⟩ := HT.out.put2 7 (.int .i64 m2) (.slice Av (tt.length + l.length) cv) rfl rfl
                replace T' : St w.heap.size w (((wg1.setCell ⟨w.heap.size + 1 + 1 + 1 + 1, 0, none⟩ (.int .i64 m2)).setCell ⟨w.heap.size + 1 + 1 + 1 + 1, 1, none⟩ (.slice Av (tt.length + l.length) cv))) [.blk W7.heap.size #[.int .i64 m2, .slice Av (tt.length + l.length) cv] 26, .row w.heap.size 41 2 (.slice Av (tt.length + l.length) cv) (tt.length + l.length) (cat css), .blk W6.heap.size #[.int .i64 m, .slice A6 fr.length c6] 26, .row w.heap.size 41 2 (.slice A6 fr.length c6) fr.length (cat dss), .blk Wq.heap.size #[.int .i64 (tt.length : Int)] 3, .blk W3.heap.size #[.slice R3 l.length c3] 48, .blk (w.heap.size + 1 + 1 + 1 + 1 + 1) #[.int .i64 0, .int .i64 0] 31, .blk (w.heap.size + 1 + 1 + 1 + 1) #[.int .i64 m2, .slice Av (tt.length + l.length) cv] 26, .blk (w.heap.size + 1 + 1 + 1) #[.int .i64 m, .slice A6 fr.length c6] 26, .blk (w.heap.size + 1 + 1) #[.int .i64 m2, .slice B tt.length d] 26, .blk (w.heap.size + 1) #[.int .i64 v.k, .int .i64 v.n] 31, .blk w.heap.size #[.int .i64 m, .slice A fr.length c] 26] := T'
                replace K' : Keeps wg1 [.blk W7.heap.size #[.int .i64 m2, .slice Av (tt.length + l.length) cv] 26, .row w.heap.size 41 2 (.slice Av (tt.length + l.length) cv) (tt.length + l.length) (cat css), .blk W6.heap.size #[.int .i64 m, .slice A6 fr.length c6] 26, .row w.heap.size 41 2 (.slice A6 fr.length c6) fr.length (cat dss), .blk Wq.heap.size #[.int .i64 (tt.length : Int)] 3, .blk W3.heap.size #[.slice R3 l.length c3] 48, .blk (w.heap.size + 1 + 1 + 1 + 1 + 1) #[.int .i64 0, .int .i64 0] 31, .blk (w.heap.size + 1 + 1 + 1 + 1) #[.int .i64 0, .slice none 0 0] 26, .blk (w.heap.size + 1 + 1 + 1) #[.int .i64 m, .slice A6 fr.length c6] 26, .blk (w.heap.size + 1 + 1) #[.int .i64 m2, .slice B tt.length d] 26, .blk (w.heap.size + 1) #[.int .i64 v.k, .int .i64 v.n] 31, .blk w.heap.size #[.int .i64 m, .slice A fr.length c] 26] (((wg1.setCell ⟨w.heap.size + 1 + 1 + 1 + 1, 0, none⟩ (.int .i64 m2)).setCell ⟨w.heap.size + 1 + 1 + 1 + 1, 1, none⟩ (.slice Av (tt.length + l.length) cv))) [.blk W7.heap.size #[.int .i64 m2, .slice Av (tt.length + l.length) cv] 26, .row w.heap.size 41 2 (.slice Av (tt.length + l.length) cv) (tt.length + l.length) (cat css), .blk W6.heap.size #[.int .i64 m, .slice A6 fr.length c6] 26, .row w.heap.size 41 2 (.slice A6 fr.length c6) fr.length (cat dss), .blk Wq.heap.size #[.int .i64 (tt.length : Int)] 3, .blk W3.heap.size #[.slice R3 l.length c3] 48, .blk (w.heap.size + 1 + 1 + 1 + 1 + 1) #[.int .i64 0, .int .i64 0] 31, .blk (w.heap.size + 1 + 1 + 1 + 1) #[.int .i64 m2, .slice Av (tt.length + l.length) cv] 26, .blk (w.heap.size + 1 + 1 + 1) #[.int .i64 m, .slice A6 fr.length c6] 26, .blk (w.heap.size + 1 + 1) #[.int .i64 m2, .slice B tt.length d] 26, .blk (w.heap.size + 1) #[.int .i64 v.k, .int .i64 v.n] 31, .blk w.heap.size #[.int .i64 m, .slice A fr.length c] 26] := K'
                replace HT := Lib.hid T'
                replace HF := Lib.hid (HF.out.move K')
                replace HTt := Lib.hid (HTt.out.move K')
                replace Hl := Lib.hid (Hl.out.move (by decide) K')
                replace Hr := Lib.hid (Hr.out.move (by decide) K')
                clear T' K'
                replace hw : w.heap.size + 1 + 1 + 1 + 1 + 1 + 1 ≤ (((wg1.setCell ⟨w.heap.size + 1 + 1 + 1 + 1, 0, none⟩ (.int .i64 m2)).setCell ⟨w.heap.size + 1 + 1 + 1 + 1, 1, none⟩ (.slice Av (tt.length + l.length) cv))).heap.size := by simpa using hw
                replace hz : W7.heap.size + 1 ≤ (((wg1.setCell ⟨w.heap.size + 1 + 1 + 1 + 1, 0, none⟩ (.int .i64 m2)).setCell ⟨w.heap.size + 1 + 1 + 1 + 1, 1, none⟩ (.slice Av (tt.length + l.length) cv))).heap.size := by simpa using hz
                generalize (wg1.setCell ⟨w.heap.size + 1 + 1 + 1 + 1, 0, none⟩ (.int .i64 m2)).setCell ⟨w.heap.size + 1 + 1 + 1 + 1, 1, none⟩ (.slice Av (tt.length + l.length) cv) = wg2 at *
                obtain ⟨r_b, q_b, r_a, q_a, r_n, q_n, r_l, q_l, r_rV, q_rV, r_rB, q_rB, r_rA, q_rA, -, -, r_v, q_v, -⟩ := HT.out.rules
                have z_b : W7.heap.size < wg2.heap.size := (HT.out.in_ 0 rfl rfl).2
                have z_a : W6.heap.size < wg2.heap.size := (HT.out.in_ 2 rfl rfl).2
                have z_n : Wq.heap.size < wg2.heap.size := (HT.out.in_ 4 rfl rfl).2
                have z_l : W3.heap.size < wg2.heap.size := (HT.out.in_ 5 rfl rfl).2
                have z_rV : w.heap.size + 1 + 1 + 1 + 1 + 1 < wg2.heap.size := (HT.out.in_ 6 rfl rfl).2
                have z_rB : w.heap.size + 1 + 1 + 1 + 1 < wg2.heap.size := (HT.out.in_ 7 rfl rfl).2
                have z_rA : w.heap.size + 1 + 1 + 1 < wg2.heap.size := (HT.out.in_ 8 rfl rfl).2
                have z_v : w.heap.size + 1 < wg2.heap.size := (HT.out.in_ 10 rfl rfl).2
                refine ⟨trivial, ?_⟩
                refine plan_loud ?_
                simp only [pick, List.getElem?_toArray, List.getElem?_cons_succ, List.getElem?_cons_zero]
                go_wp2_with fail
                clear r_b q_b r_a q_a r_n q_n r_l q_l r_rV q_rV r_rB q_rB r_rA q_rA r_v q_v z_b z_a z_n z_l z_rV z_rB z_rA z_v
                obtain ⟨T', K'⟩ := HT.out.put2 6 (.int .i64 (newV (plM tt.length l) v).k) (.int .i64 (newV (plM tt.length l) v).n) rfl rfl
                replace T' : St w.heap.size w (((wg2.setCell ⟨w.heap.size + 1 + 1 + 1 + 1 + 1, 0, none⟩ (.int .i64 (newV (plM tt.length l) v).k)).setCell ⟨w.heap.size + 1 + 1 + 1 + 1 + 1, 1, none⟩ (.int .i64 (newV (plM tt.length l) v).n))) [.blk W7.heap.size #[.int .i64 m2, .slice Av (tt.length + l.length) cv] 26, .row w.heap.size 41 2 (.slice Av (tt.length + l.length) cv) (tt.length + l.length) (cat css), .blk W6.heap.size #[.int .i64 m, .slice A6 fr.length c6] 26, .row w.heap.size 41 2 (.slice A6 fr.length c6) fr.length (cat dss), .blk Wq.heap.size #[.int .i64 (tt.length : Int)] 3, .blk W3.heap.size #[.slice R3 l.length c3] 48, .blk (w.heap.size + 1 + 1 + 1 + 1 + 1) #[.int .i64 (newV (plM tt.length l) v).k, .int .i64 (newV (plM tt.length l) v).n] 31, .blk (w.heap.size + 1 + 1 + 1 + 1) #[.int .i64 m2, .slice Av (tt.length + l.length) cv] 26, .blk (w.heap.size + 1 + 1 + 1) #[.int .i64 m, .slice A6 fr.length c6] 26, .blk (w.heap.size + 1 + 1) #[.int .i64 m2, .slice B tt.length d] 26, .blk (w.heap.size + 1) #[.int .i64 v.k, .int .i64 v.n] 31, .blk w.heap.size #[.int .i64 m, .slice A fr.length c] 26] := T'
                replace K' : Keeps wg2 [.blk W7.heap.size #[.int .i64 m2, .slice Av (tt.length + l.length) cv] 26, .row w.heap.size 41 2 (.slice Av (tt.length + l.length) cv) (tt.length + l.length) (cat css), .blk W6.heap.size #[.int .i64 m, .slice A6 fr.length c6] 26, .row w.heap.size 41 2 (.slice A6 fr.length c6) fr.length (cat dss), .blk Wq.heap.size #[.int .i64 (tt.length : Int)] 3, .blk W3.heap.size #[.slice R3 l.length c3] 48, .blk (w.heap.size + 1 + 1 + 1 + 1 + 1) #[.int .i64 0, .int .i64 0] 31, .blk (w.heap.size + 1 + 1 + 1 + 1) #[.int .i64 m2, .slice Av (tt.length + l.length) cv] 26, .blk (w.heap.size + 1 + 1 + 1) #[.int .i64 m, .slice A6 fr.length c6] 26, .blk (w.heap.size + 1 + 1) #[.int .i64 m2, .slice B tt.length d] 26, .blk (w.heap.size + 1) #[.int .i64 v.k, .int .i64 v.n] 31, .blk w.heap.size #[.int .i64 m, .slice A fr.length c] 26] (((wg2.setCell ⟨w.heap.size + 1 + 1 + 1 + 1 + 1, 0, none⟩ (.int .i64 (newV (plM tt.length l) v).k)).setCell ⟨w.heap.size + 1 + 1 + 1 + 1 + 1, 1, none⟩ (.int .i64 (newV (plM tt.length l) v).n))) [.blk W7.heap.size #[.int .i64 m2, .slice Av (tt.length + l.length) cv] 26, .row w.heap.size 41 2 (.slice Av (tt.length + l.length) cv) (tt.length + l.length) (cat css), .blk W6.heap.size #[.int .i64 m, .slice A6 fr.length c6] 26, .row w.heap.size 41 2 (.slice A6 fr.length c6) fr.length (cat dss), .blk Wq.heap.size #[.int .i64 (tt.length : Int)] 3, .blk W3.heap.size #[.slice R3 l.length c3] 48, .blk (w.heap.size + 1 + 1 + 1 + 1 + 1) #[.int .i64 (newV (plM tt.length l) v).k, .int .i64 (newV (plM tt.length l) v).n] 31, .blk (w.heap.size + 1 + 1 + 1 + 1) #[.int .i64 m2, .slice Av (tt.length + l.length) cv] 26, .blk (w.heap.size + 1 + 1 + 1) #[.int .i64 m, .slice A6 fr.length c6] 26, .blk (w.heap.size + 1 + 1) #[.int .i64 m2, .slice B tt.length d] 26, .blk (w.heap.size + 1) #[.int .i64 v.k, .int .i64 v.n] 31, .blk w.heap.size #[.int .i64 m, .slice A fr.length c] 26] := K'
                replace HT := Lib.hid T'
                replace HF := Lib.hid (HF.out.move K')
                replace HTt := Lib.hid (HTt.out.move K')
                replace Hl := Lib.hid (Hl.out.move (by decide) K')
                replace Hr := Lib.hid (Hr.out.move (by decide) K')
                clear T' K'
                replace hw : w.heap.size + 1 + 1 + 1 + 1 + 1 + 1 ≤ (((wg2.setCell ⟨w.heap.size + 1 + 1 + 1 + 1 + 1, 0, none⟩ (.int .i64 (newV (plM tt.length l) v).k)).setCell ⟨w.heap.size + 1 + 1 + 1 + 1 + 1, 1, none⟩ (.int .i64 (newV (plM tt.length l) v).n))).heap.size := by simpa using hw
                replace hz : W7.heap.size + 1 ≤ (((wg2.setCell ⟨w.heap.size + 1 + 1 + 1 + 1 + 1, 0, none⟩ (.int .i64 (newV (plM tt.length l) v).k)).setCell ⟨w.heap.size + 1 + 1 + 1 + 1 + 1, 1, none⟩ (.int .i64 (newV (plM tt.length l) v).n))).heap.size := by simpa using hz
                generalize (wg2.setCell ⟨w.heap.size + 1 + 1 + 1 + 1 + 1, 0, none⟩ (.int .i64 (newV (plM tt.length l) v).k)).setCell ⟨w.heap.size + 1 + 1 + 1 + 1 + 1, 1, none⟩ (.int .i64 (newV (plM tt.length l) v).n) = wg3 at *
                obtain ⟨r_b, q_b, r_a, q_a, r_n, q_n, r_l, q_l, r_rV, q_rV, r_rB, q_rB, r_rA, q_rA, -, -, r_v, q_v, -⟩ := HT.out.rules
                have z_b : W7.heap.size < wg3.heap.size := (HT.out.in_ 0 rfl rfl).2
                have z_a : W6.heap.size < wg3.heap.size := (HT.out.in_ 2 rfl rfl).2
                have z_n : Wq.heap.size < wg3.heap.size := (HT.out.in_ 4 rfl rfl).2
                have z_l : W3.heap.size < wg3.heap.size := (HT.out.in_ 5 rfl rfl).2
                have z_rV : w.heap.size + 1 + 1 + 1 + 1 + 1 < wg3.heap.size := (HT.out.in_ 6 rfl rfl).2
                have z_rB : w.heap.size + 1 + 1 + 1 + 1 < wg3.heap.size := (HT.out.in_ 7 rfl rfl).2
                have z_rA : w.heap.size + 1 + 1 + 1 < wg3.heap.size := (HT.out.in_ 8 rfl rfl).2
                have z_v : w.heap.size + 1 < wg3.heap.size := (HT.out.in_ 10 rfl rfl).2
                refine ⟨trivial, ?_⟩
                refine plan_still ?_
                simp only [pick, List.getElem?_toArray, List.getElem?_cons_succ, List.getElem?_cons_zero]
                repeat still_step
                refine wpStill_nil ?_
                refine plan_end (NoPanic.normal ?_)
                go_wp2_with fail
                have hLn : (partC fr tt l l.length).length = tt.length + l.length := partC_len (Nat.le_refl _)
                have hMn : (movedL fr (if move then l else [])).length = fr.length := movedL_len _ _
                have hA := HT.out.rdRow (E := obE) (n := w.heap.size) 3 rfl rfl hMn.symm HF.out (by rw [hMn]; exact hfb.out) (Nat.le_refl _) (by decide)
                have hB := HT.out.rdRow (E := obE) (n := w.heap.size) 1 rfl rfl hLn.symm HTt.out (by rw [hLn]; show (tt.length + l.length) * 32 ≤ _; omega) (Nat.le_refl _) (by decide)
                refine bodyPost_ret (v := .tuple #[.agg #[.int .i64 m, .slice A6 fr.length c6], .agg #[.int .i64 m2, .slice Av (tt.length + l.length) cv], .agg #[.int .i64 (newV (plM tt.length l) v).k, .int .i64 (newV (plM tt.length l) v).n], .int .i64 0]) (by simp [results, Try.results18, go_sem, r_rA, r_rB, r_rV]) rfl ?_
                rw [HP.out]
                exact ⟨_, _, rfl, RdH.of hA hMn.symm, RdH.of hB hLn.symm, HT.out.below⟩
    · have hf : hpB ⟨m2, tt⟩ [] = false := by simpa using hp2
      have hE : transE ⟨m, fr⟩ v ⟨m2, tt⟩ (reachL fr [v]) = 8 := by
        unfold transE
        rw [if_neg (by rw [hp1]; decide), if_pos hf]
      have HRF := Lib.hid (refused 8 hE (by decide))
      have HC2 := Lib.hid hf
      clear refused hE hf hp1 hp2
      have HT := HT0
      have hw := hz0
      clear HT0 hz0
      go_enter Try.func18, Try.ntmps18
      go_upto_region 1 with fail
      generalize ((((((w.alloc (.cells #[.int .i64 m, .slice A fr.length c] 26)).alloc (.cells #[.int .i64 v.k, .int .i64 v.n] 31)).alloc (.cells #[.int .i64 m2, .slice B tt.length d] 26)).alloc (.cells #[.int .i64 0, .slice none 0 0] 26)).alloc (.cells #[.int .i64 0, .slice none 0 0] 26)).alloc (.cells #[.int .i64 0, .int .i64 0] 31)) = W0 at *
      obtain ⟨r_rV, q_rV, r_rB, q_rB, r_rA, q_rA, r_to, q_to, r_v, q_v, r_from, q_from, -⟩ := HT.out.rules
      have z_rV : w.heap.size + 1 + 1 + 1 + 1 + 1 < W0.heap.size := (HT.out.in_ 0 rfl rfl).2
      have z_rB : w.heap.size + 1 + 1 + 1 + 1 < W0.heap.size := (HT.out.in_ 1 rfl rfl).2
      have z_rA : w.heap.size + 1 + 1 + 1 < W0.heap.size := (HT.out.in_ 2 rfl rfl).2
      have z_to : w.heap.size + 1 + 1 < W0.heap.size := (HT.out.in_ 3 rfl rfl).2
      have z_v : w.heap.size + 1 < W0.heap.size := (HT.out.in_ 4 rfl rfl).2
      have z_from : w.heap.size < W0.heap.size := (HT.out.in_ 5 rfl rfl).2
      go_wp2_with fail
      obtain ⟨T', K'⟩ := HT.out.alloc (.cells #[.int .i64 v.k, .int .i64 v.n] 31)
      replace T' : St w.heap.size w ((W0.alloc (.cells #[.int .i64 v.k, .int .i64 v.n] 31))) [.blk (w.heap.size + 1 + 1 + 1 + 1 + 1) #[.int .i64 0, .int .i64 0] 31, .blk (w.heap.size + 1 + 1 + 1 + 1) #[.int .i64 0, .slice none 0 0] 26, .blk (w.heap.size + 1 + 1 + 1) #[.int .i64 0, .slice none 0 0] 26, .blk (w.heap.size + 1 + 1) #[.int .i64 m2, .slice B tt.length d] 26, .blk (w.heap.size + 1) #[.int .i64 v.k, .int .i64 v.n] 31, .blk w.heap.size #[.int .i64 m, .slice A fr.length c] 26] := T'
      replace K' : Keeps W0 [.blk (w.heap.size + 1 + 1 + 1 + 1 + 1) #[.int .i64 0, .int .i64 0] 31, .blk (w.heap.size + 1 + 1 + 1 + 1) #[.int .i64 0, .slice none 0 0] 26, .blk (w.heap.size + 1 + 1 + 1) #[.int .i64 0, .slice none 0 0] 26, .blk (w.heap.size + 1 + 1) #[.int .i64 m2, .slice B tt.length d] 26, .blk (w.heap.size + 1) #[.int .i64 v.k, .int .i64 v.n] 31, .blk w.heap.size #[.int .i64 m, .slice A fr.length c] 26] ((W0.alloc (.cells #[.int .i64 v.k, .int .i64 v.n] 31))) [.blk (w.heap.size + 1 + 1 + 1 + 1 + 1) #[.int .i64 0, .int .i64 0] 31, .blk (w.heap.size + 1 + 1 + 1 + 1) #[.int .i64 0, .slice none 0 0] 26, .blk (w.heap.size + 1 + 1 + 1) #[.int .i64 0, .slice none 0 0] 26, .blk (w.heap.size + 1 + 1) #[.int .i64 m2, .slice B tt.length d] 26, .blk (w.heap.size + 1) #[.int .i64 v.k, .int .i64 v.n] 31, .blk w.heap.size #[.int .i64 m, .slice A fr.length c] 26] := K'
      replace HT := Lib.hid T'
      replace Hr := Lib.hid (Hr.out.move (by decide) K')
      replace Hq := Lib.hid (Hq.out.move (by decide) K')
      clear T' K'
      replace hw : w.heap.size + 1 + 1 + 1 + 1 + 1 + 1 ≤ ((W0.alloc (.cells #[.int .i64 v.k, .int .i64 v.n] 31))).heap.size := Nat.le_trans hw (by simp)
      refine (may_is m _ _ A _ c 1 fr [v] _ _ HC1 Hr.out (rd_one (blk_at rfl))).mono ?_
      rintro e W1 ⟨rfl, hb⟩
      clear r_rV q_rV r_rB q_rB r_rA q_rA r_to q_to r_v q_v r_from q_from z_rV z_rB z_rA z_to z_v z_from
      obtain ⟨T', K'⟩ := HT.out.call hb
      replace T' : St w.heap.size w W1 [.blk (w.heap.size + 1 + 1 + 1 + 1 + 1) #[.int .i64 0, .int .i64 0] 31, .blk (w.heap.size + 1 + 1 + 1 + 1) #[.int .i64 0, .slice none 0 0] 26, .blk (w.heap.size + 1 + 1 + 1) #[.int .i64 0, .slice none 0 0] 26, .blk (w.heap.size + 1 + 1) #[.int .i64 m2, .slice B tt.length d] 26, .blk (w.heap.size + 1) #[.int .i64 v.k, .int .i64 v.n] 31, .blk w.heap.size #[.int .i64 m, .slice A fr.length c] 26] := T'
      replace K' : Keeps ((W0.alloc (.cells #[.int .i64 v.k, .int .i64 v.n] 31))) [.blk (w.heap.size + 1 + 1 + 1 + 1 + 1) #[.int .i64 0, .int .i64 0] 31, .blk (w.heap.size + 1 + 1 + 1 + 1) #[.int .i64 0, .slice none 0 0] 26, .blk (w.heap.size + 1 + 1 + 1) #[.int .i64 0, .slice none 0 0] 26, .blk (w.heap.size + 1 + 1) #[.int .i64 m2, .slice B tt.length d] 26, .blk (w.heap.size + 1) #[.int .i64 v.k, .int .i64 v.n] 31, .blk w.heap.size #[.int .i64 m, .slice A fr.length c] 26] W1 [.blk (w.heap.size + 1 + 1 + 1 + 1 + 1) #[.int .i64 0, .int .i64 0] 31, .blk (w.heap.size + 1 + 1 + 1 + 1) #[.int .i64 0, .slice none 0 0] 26, .blk (w.heap.size + 1 + 1 + 1) #[.int .i64 0, .slice none 0 0] 26, .blk (w.heap.size + 1 + 1) #[.int .i64 m2, .slice B tt.length d] 26, .blk (w.heap.size + 1) #[.int .i64 v.k, .int .i64 v.n] 31, .blk w.heap.size #[.int .i64 m, .slice A fr.length c] 26] := K'
      replace HT := Lib.hid T'
      replace Hr := Lib.hid (Hr.out.move (by decide) K')
      replace Hq := Lib.hid (Hq.out.move (by decide) K')
      clear T' K'
      replace hw : w.heap.size + 1 + 1 + 1 + 1 + 1 + 1 ≤ W1.heap.size := Nat.le_trans hw hb.size
      clear hb
      obtain ⟨r_rV, q_rV, r_rB, q_rB, r_rA, q_rA, r_to, q_to, r_v, q_v, r_from, q_from, -⟩ := HT.out.rules
      have z_rV : w.heap.size + 1 + 1 + 1 + 1 + 1 < W1.heap.size := (HT.out.in_ 0 rfl rfl).2
      have z_rB : w.heap.size + 1 + 1 + 1 + 1 < W1.heap.size := (HT.out.in_ 1 rfl rfl).2
      have z_rA : w.heap.size + 1 + 1 + 1 < W1.heap.size := (HT.out.in_ 2 rfl rfl).2
      have z_to : w.heap.size + 1 + 1 < W1.heap.size := (HT.out.in_ 3 rfl rfl).2
      have z_v : w.heap.size + 1 < W1.heap.size := (HT.out.in_ 4 rfl rfl).2
      have z_from : w.heap.size < W1.heap.size := (HT.out.in_ 5 rfl rfl).2
      go_wp2_with fail
      refine (may_is m2 _ (fun _ => True) B none d 0 tt [] _ _ HC2 Hq.out RdSl.nil).mono ?_
      rintro e W2 ⟨rfl, hb⟩
      clear r_rV q_rV r_rB q_rB r_rA q_rA r_to q_to r_v q_v r_from q_from z_rV z_rB z_rA z_to z_v z_from
      obtain ⟨T', K'⟩ := HT.out.call hb
      replace T' : St w.heap.size w W2 [.blk (w.heap.size + 1 + 1 + 1 + 1 + 1) #[.int .i64 0, .int .i64 0] 31, .blk (w.heap.size + 1 + 1 + 1 + 1) #[.int .i64 0, .slice none 0 0] 26, .blk (w.heap.size + 1 + 1 + 1) #[.int .i64 0, .slice none 0 0] 26, .blk (w.heap.size + 1 + 1) #[.int .i64 m2, .slice B tt.length d] 26, .blk (w.heap.size + 1) #[.int .i64 v.k, .int .i64 v.n] 31, .blk w.heap.size #[.int .i64 m, .slice A fr.length c] 26] := T'
      replace K' : Keeps W1 [.blk (w.heap.size + 1 + 1 + 1 + 1 + 1) #[.int .i64 0, .int .i64 0] 31, .blk (w.heap.size + 1 + 1 + 1 + 1) #[.int .i64 0, .slice none 0 0] 26, .blk (w.heap.size + 1 + 1 + 1) #[.int .i64 0, .slice none 0 0] 26, .blk (w.heap.size + 1 + 1) #[.int .i64 m2, .slice B tt.length d] 26, .blk (w.heap.size + 1) #[.int .i64 v.k, .int .i64 v.n] 31, .blk w.heap.size #[.int .i64 m, .slice A fr.length c] 26] W2 [.blk (w.heap.size + 1 + 1 + 1 + 1 + 1) #[.int .i64 0, .int .i64 0] 31, .blk (w.heap.size + 1 + 1 + 1 + 1) #[.int .i64 0, .slice none 0 0] 26, .blk (w.heap.size + 1 + 1 + 1) #[.int .i64 0, .slice none 0 0] 26, .blk (w.heap.size + 1 + 1) #[.int .i64 m2, .slice B tt.length d] 26, .blk (w.heap.size + 1) #[.int .i64 v.k, .int .i64 v.n] 31, .blk w.heap.size #[.int .i64 m, .slice A fr.length c] 26] := K'
      replace HT := Lib.hid T'
      replace Hr := Lib.hid (Hr.out.move (by decide) K')
      replace Hq := Lib.hid (Hq.out.move (by decide) K')
      clear T' K'
      replace hw : w.heap.size + 1 + 1 + 1 + 1 + 1 + 1 ≤ W2.heap.size := Nat.le_trans hw hb.size
      clear hb
      obtain ⟨r_rV, q_rV, r_rB, q_rB, r_rA, q_rA, r_to, q_to, r_v, q_v, r_from, q_from, -⟩ := HT.out.rules
      have z_rV : w.heap.size + 1 + 1 + 1 + 1 + 1 < W2.heap.size := (HT.out.in_ 0 rfl rfl).2
      have z_rB : w.heap.size + 1 + 1 + 1 + 1 < W2.heap.size := (HT.out.in_ 1 rfl rfl).2
      have z_rA : w.heap.size + 1 + 1 + 1 < W2.heap.size := (HT.out.in_ 2 rfl rfl).2
      have z_to : w.heap.size + 1 + 1 < W2.heap.size := (HT.out.in_ 3 rfl rfl).2
      have z_v : w.heap.size + 1 < W2.heap.size := (HT.out.in_ 4 rfl rfl).2
      have z_from : w.heap.size < W2.heap.size := (HT.out.in_ 5 rfl rfl).2
      go_wp2_with fail
      clear r_rV q_rV r_rB q_rB r_rA q_rA r_to q_to r_v q_v r_from q_from z_rV z_rB z_rA z_to z_v z_from
      obtain ⟨T', K'⟩ := HT.out.put2 2 (.int .i64 0) (.slice none 0 0) rfl rfl
      replace T' : St w.heap.size w (((W2.setCell ⟨w.heap.size + 1 + 1 + 1, 0, none⟩ (.int .i64 0)).setCell ⟨w.heap.size + 1 + 1 + 1, 1, none⟩ (.slice none 0 0))) [.blk (w.heap.size + 1 + 1 + 1 + 1 + 1) #[.int .i64 0, .int .i64 0] 31, .blk (w.heap.size + 1 + 1 + 1 + 1) #[.int .i64 0, .slice none 0 0] 26, .blk (w.heap.size + 1 + 1 + 1) #[.int .i64 0, .slice none 0 0] 26, .blk (w.heap.size + 1 + 1) #[.int .i64 m2, .slice B tt.length d] 26, .blk (w.heap.size + 1) #[.int .i64 v.k, .int .i64 v.n] 31, .blk w.heap.size #[.int .i64 m, .slice A fr.length c] 26] := T'
      replace K' : Keeps W2 [.blk (w.heap.size + 1 + 1 + 1 + 1 + 1) #[.int .i64 0, .int .i64 0] 31, .blk (w.heap.size + 1 + 1 + 1 + 1) #[.int .i64 0, .slice none 0 0] 26, .blk (w.heap.size + 1 + 1 + 1) #[.int .i64 0, .slice none 0 0] 26, .blk (w.heap.size + 1 + 1) #[.int .i64 m2, .slice B tt.length d] 26, .blk (w.heap.size + 1) #[.int .i64 v.k, .int .i64 v.n] 31, .blk w.heap.size #[.int .i64 m, .slice A fr.length c] 26] (((W2.setCell ⟨w.heap.size + 1 + 1 + 1, 0, none⟩ (.int .i64 0)).setCell ⟨w.heap.size + 1 + 1 + 1, 1, none⟩ (.slice none 0 0))) [.blk (w.heap.size + 1 + 1 + 1 + 1 + 1) #[.int .i64 0, .int .i64 0] 31, .blk (w.heap.size + 1 + 1 + 1 + 1) #[.int .i64 0, .slice none 0 0] 26, .blk (w.heap.size + 1 + 1 + 1) #[.int .i64 0, .slice none 0 0] 26, .blk (w.heap.size + 1 + 1) #[.int .i64 m2, .slice B tt.length d] 26, .blk (w.heap.size + 1) #[.int .i64 v.k, .int .i64 v.n] 31, .blk w.heap.size #[.int .i64 m, .slice A fr.length c] 26] := K'
      replace HT := Lib.hid T'
      replace Hr := Lib.hid (Hr.out.move (by decide) K')
      replace Hq := Lib.hid (Hq.out.move (by decide) K')
      clear T' K'
      replace hw : w.heap.size + 1 + 1 + 1 + 1 + 1 + 1 ≤ (((W2.setCell ⟨w.heap.size + 1 + 1 + 1, 0, none⟩ (.int .i64 0)).setCell ⟨w.heap.size + 1 + 1 + 1, 1, none⟩ (.slice none 0 0))).heap.size := by simpa using hw
      generalize (W2.setCell ⟨w.heap.size + 1 + 1 + 1, 0, none⟩ (.int .i64 0)).setCell ⟨w.heap.size + 1 + 1 + 1, 1, none⟩ (.slice none 0 0) = W2s1 at *
      obtain ⟨T', K'⟩ := HT.out.put2 1 (.int .i64 0) (.slice none 0 0) rfl rfl
      replace T' : St w.heap.size w (((W2s1.setCell ⟨w.heap.size + 1 + 1 + 1 + 1, 0, none⟩ (.int .i64 0)).setCell ⟨w.heap.size + 1 + 1 + 1 + 1, 1, none⟩ (.slice none 0 0))) [.blk (w.heap.size + 1 + 1 + 1 + 1 + 1) #[.int .i64 0, .int .i64 0] 31, .blk (w.heap.size + 1 + 1 + 1 + 1) #[.int .i64 0, .slice none 0 0] 26, .blk (w.heap.size + 1 + 1 + 1) #[.int .i64 0, .slice none 0 0] 26, .blk (w.heap.size + 1 + 1) #[.int .i64 m2, .slice B tt.length d] 26, .blk (w.heap.size + 1) #[.int .i64 v.k, .int .i64 v.n] 31, .blk w.heap.size #[.int .i64 m, .slice A fr.length c] 26] := T'
      replace K' : Keeps W2s1 [.blk (w.heap.size + 1 + 1 + 1 + 1 + 1) #[.int .i64 0, .int .i64 0] 31, .blk (w.heap.size + 1 + 1 + 1 + 1) #[.int .i64 0, .slice none 0 0] 26, .blk (w.heap.size + 1 + 1 + 1) #[.int .i64 0, .slice none 0 0] 26, .blk (w.heap.size + 1 + 1) #[.int .i64 m2, .slice B tt.length d] 26, .blk (w.heap.size + 1) #[.int .i64 v.k, .int .i64 v.n] 31, .blk w.heap.size #[.int .i64 m, .slice A fr.length c] 26] (((W2s1.setCell ⟨w.heap.size + 1 + 1 + 1 + 1, 0, none⟩ (.int .i64 0)).setCell ⟨w.heap.size + 1 + 1 + 1 + 1, 1, none⟩ (.slice none 0 0))) [.blk (w.heap.size + 1 + 1 + 1 + 1 + 1) #[.int .i64 0, .int .i64 0] 31, .blk (w.heap.size + 1 + 1 + 1 + 1) #[.int .i64 0, .slice none 0 0] 26, .blk (w.heap.size + 1 + 1 + 1) #[.int .i64 0, .slice none 0 0] 26, .blk (w.heap.size + 1 + 1) #[.int .i64 m2, .slice B tt.length d] 26, .blk (w.heap.size + 1) #[.int .i64 v.k, .int .i64 v.n] 31, .blk w.heap.size #[.int .i64 m, .slice A fr.length c] 26] := K'
      replace HT := Lib.hid T'
      replace Hr := Lib.hid (Hr.out.move (by decide) K')
      replace Hq := Lib.hid (Hq.out.move (by decide) K')
      clear T' K'
      replace hw : w.heap.size + 1 + 1 + 1 + 1 + 1 + 1 ≤ (((W2s1.setCell ⟨w.heap.size + 1 + 1 + 1 + 1, 0, none⟩ (.int .i64 0)).setCell ⟨w.heap.size + 1 + 1 + 1 + 1, 1, none⟩ (.slice none 0 0))).heap.size := by simpa using hw
      generalize (W2s1.setCell ⟨w.heap.size + 1 + 1 + 1 + 1, 0, none⟩ (.int .i64 0)).setCell ⟨w.heap.size + 1 + 1 + 1 + 1, 1, none⟩ (.slice none 0 0) = W2s2 at *
      obtain ⟨T', K'⟩ := HT.out.put2 0 (.int .i64 0) (.int .i64 0) rfl rfl
      replace T' : St w.heap.size w (((W2s2.setCell ⟨w.heap.size + 1 + 1 + 1 + 1 + 1, 0, none⟩ (.int .i64 0)).setCell ⟨w.heap.size + 1 + 1 + 1 + 1 + 1, 1, none⟩ (.int .i64 0))) [.blk (w.heap.size + 1 + 1 + 1 + 1 + 1) #[.int .i64 0, .int .i64 0] 31, .blk (w.heap.size + 1 + 1 + 1 + 1) #[.int .i64 0, .slice none 0 0] 26, .blk (w.heap.size + 1 + 1 + 1) #[.int .i64 0, .slice none 0 0] 26, .blk (w.heap.size + 1 + 1) #[.int .i64 m2, .slice B tt.length d] 26, .blk (w.heap.size + 1) #[.int .i64 v.k, .int .i64 v.n] 31, .blk w.heap.size #[.int .i64 m, .slice A fr.length c] 26] := T'
      replace K' : Keeps W2s2 [.blk (w.heap.size + 1 + 1 + 1 + 1 + 1) #[.int .i64 0, .int .i64 0] 31, .blk (w.heap.size + 1 + 1 + 1 + 1) #[.int .i64 0, .slice none 0 0] 26, .blk (w.heap.size + 1 + 1 + 1) #[.int .i64 0, .slice none 0 0] 26, .blk (w.heap.size + 1 + 1) #[.int .i64 m2, .slice B tt.length d] 26, .blk (w.heap.size + 1) #[.int .i64 v.k, .int .i64 v.n] 31, .blk w.heap.size #[.int .i64 m, .slice A fr.length c] 26] (((W2s2.setCell ⟨w.heap.size + 1 + 1 + 1 + 1 + 1, 0, none⟩ (.int .i64 0)).setCell ⟨w.heap.size + 1 + 1 + 1 + 1 + 1, 1, none⟩ (.int .i64 0))) [.blk (w.heap.size + 1 + 1 + 1 + 1 + 1) #[.int .i64 0, .int .i64 0] 31, .blk (w.heap.size + 1 + 1 + 1 + 1) #[.int .i64 0, .slice none 0 0] 26, .blk (w.heap.size + 1 + 1 + 1) #[.int .i64 0, .slice none 0 0] 26, .blk (w.heap.size + 1 + 1) #[.int .i64 m2, .slice B tt.length d] 26, .blk (w.heap.size + 1) #[.int .i64 v.k, .int .i64 v.n] 31, .blk w.heap.size #[.int .i64 m, .slice A fr.length c] 26] := K'
      replace HT := Lib.hid T'
      replace Hr := Lib.hid (Hr.out.move (by decide) K')
      replace Hq := Lib.hid (Hq.out.move (by decide) K')
      clear T' K'
      replace hw : w.heap.size + 1 + 1 + 1 + 1 + 1 + 1 ≤ (((W2s2.setCell ⟨w.heap.size + 1 + 1 + 1 + 1 + 1, 0, none⟩ (.int .i64 0)).setCell ⟨w.heap.size + 1 + 1 + 1 + 1 + 1, 1, none⟩ (.int .i64 0))).heap.size := by simpa using hw
      generalize (W2s2.setCell ⟨w.heap.size + 1 + 1 + 1 + 1 + 1, 0, none⟩ (.int .i64 0)).setCell ⟨w.heap.size + 1 + 1 + 1 + 1 + 1, 1, none⟩ (.int .i64 0) = W2s3 at *
      obtain ⟨r_rV, q_rV, r_rB, q_rB, r_rA, q_rA, -⟩ := HT.out.rules
      have z_rV : w.heap.size + 1 + 1 + 1 + 1 + 1 < W2s3.heap.size := (HT.out.in_ 0 rfl rfl).2
      have z_rB : w.heap.size + 1 + 1 + 1 + 1 < W2s3.heap.size := (HT.out.in_ 1 rfl rfl).2
      have z_rA : w.heap.size + 1 + 1 + 1 < W2s3.heap.size := (HT.out.in_ 2 rfl rfl).2
      refine bodyPost_ret (v := .tuple #[.agg #[.int .i64 0, .slice none 0 0], .agg #[.int .i64 0, .slice none 0 0], .agg #[.int .i64 0, .int .i64 0], .int .i64 8]) (by simp [results, Try.results18, go_sem, r_rA, r_rB, r_rV]) rfl (by rw [HRF.out]; exact ⟨_, _, rfl, .zero, .zero, HT.out.below⟩)
  · have hf : hpB ⟨m, fr⟩ [v] = false := by simpa using hp1
    have HRF := Lib.hid (refused 8 (if_pos hf) (by decide))
    have HC := Lib.hid hf
    clear refused hf hp1
    have HT := HT0
    have hw := hz0
    clear HT0 hz0
    go_enter Try.func18, Try.ntmps18
    go_upto_region 1 with fail
    generalize ((((((w.alloc (.cells #[.int .i64 m, .slice A fr.length c] 26)).alloc (.cells #[.int .i64 v.k, .int .i64 v.n] 31)).alloc (.cells #[.int .i64 m2, .slice B tt.length d] 26)).alloc (.cells #[.int .i64 0, .slice none 0 0] 26)).alloc (.cells #[.int .i64 0, .slice none 0 0] 26)).alloc (.cells #[.int .i64 0, .int .i64 0] 31)) = W0 at *
    obtain ⟨r_rV, q_rV, r_rB, q_rB, r_rA, q_rA, r_to, q_to, r_v, q_v, r_from, q_from, -⟩ := HT.out.rules
    have z_rV : w.heap.size + 1 + 1 + 1 + 1 + 1 < W0.heap.size := (HT.out.in_ 0 rfl rfl).2
    have z_rB : w.heap.size + 1 + 1 + 1 + 1 < W0.heap.size := (HT.out.in_ 1 rfl rfl).2
    have z_rA : w.heap.size + 1 + 1 + 1 < W0.heap.size := (HT.out.in_ 2 rfl rfl).2
    have z_to : w.heap.size + 1 + 1 < W0.heap.size := (HT.out.in_ 3 rfl rfl).2
    have z_v : w.heap.size + 1 < W0.heap.size := (HT.out.in_ 4 rfl rfl).2
    have z_from : w.heap.size < W0.heap.size := (HT.out.in_ 5 rfl rfl).2
    go_wp2_with fail
    obtain ⟨T', K'⟩ := HT.out.alloc (.cells #[.int .i64 v.k, .int .i64 v.n] 31)
    replace T' : St w.heap.size w ((W0.alloc (.cells #[.int .i64 v.k, .int .i64 v.n] 31))) [.blk (w.heap.size + 1 + 1 + 1 + 1 + 1) #[.int .i64 0, .int .i64 0] 31, .blk (w.heap.size + 1 + 1 + 1 + 1) #[.int .i64 0, .slice none 0 0] 26, .blk (w.heap.size + 1 + 1 + 1) #[.int .i64 0, .slice none 0 0] 26, .blk (w.heap.size + 1 + 1) #[.int .i64 m2, .slice B tt.length d] 26, .blk (w.heap.size + 1) #[.int .i64 v.k, .int .i64 v.n] 31, .blk w.heap.size #[.int .i64 m, .slice A fr.length c] 26] := T'
    replace K' : Keeps W0 [.blk (w.heap.size + 1 + 1 + 1 + 1 + 1) #[.int .i64 0, .int .i64 0] 31, .blk (w.heap.size + 1 + 1 + 1 + 1) #[.int .i64 0, .slice none 0 0] 26, .blk (w.heap.size + 1 + 1 + 1) #[.int .i64 0, .slice none 0 0] 26, .blk (w.heap.size + 1 + 1) #[.int .i64 m2, .slice B tt.length d] 26, .blk (w.heap.size + 1) #[.int .i64 v.k, .int .i64 v.n] 31, .blk w.heap.size #[.int .i64 m, .slice A fr.length c] 26] ((W0.alloc (.cells #[.int .i64 v.k, .int .i64 v.n] 31))) [.blk (w.heap.size + 1 + 1 + 1 + 1 + 1) #[.int .i64 0, .int .i64 0] 31, .blk (w.heap.size + 1 + 1 + 1 + 1) #[.int .i64 0, .slice none 0 0] 26, .blk (w.heap.size + 1 + 1 + 1) #[.int .i64 0, .slice none 0 0] 26, .blk (w.heap.size + 1 + 1) #[.int .i64 m2, .slice B tt.length d] 26, .blk (w.heap.size + 1) #[.int .i64 v.k, .int .i64 v.n] 31, .blk w.heap.size #[.int .i64 m, .slice A fr.length c] 26] := K'
    replace HT := Lib.hid T'
    replace Hr := Lib.hid (Hr.out.move (by decide) K')
    replace Hq := Lib.hid (Hq.out.move (by decide) K')
    clear T' K'
    replace hw : w.heap.size + 1 + 1 + 1 + 1 + 1 + 1 ≤ ((W0.alloc (.cells #[.int .i64 v.k, .int .i64 v.n] 31))).heap.size := Nat.le_trans hw (by simp)
    refine (may_is m _ _ A _ c 1 fr [v] _ _ HC Hr.out (rd_one (blk_at rfl))).mono ?_
    rintro e W1 ⟨rfl, hb⟩
    clear r_rV q_rV r_rB q_rB r_rA q_rA r_to q_to r_v q_v r_from q_from z_rV z_rB z_rA z_to z_v z_from
    obtain ⟨T', K'⟩ := HT.out.call hb
    replace T' : St w.heap.size w W1 [.blk (w.heap.size + 1 + 1 + 1 + 1 + 1) #[.int .i64 0, .int .i64 0] 31, .blk (w.heap.size + 1 + 1 + 1 + 1) #[.int .i64 0, .slice none 0 0] 26, .blk (w.heap.size + 1 + 1 + 1) #[.int .i64 0, .slice none 0 0] 26, .blk (w.heap.size + 1 + 1) #[.int .i64 m2, .slice B tt.length d] 26, .blk (w.heap.size + 1) #[.int .i64 v.k, .int .i64 v.n] 31, .blk w.heap.size #[.int .i64 m, .slice A fr.length c] 26] := T'
    replace K' : Keeps ((W0.alloc (.cells #[.int .i64 v.k, .int .i64 v.n] 31))) [.blk (w.heap.size + 1 + 1 + 1 + 1 + 1) #[.int .i64 0, .int .i64 0] 31, .blk (w.heap.size + 1 + 1 + 1 + 1) #[.int .i64 0, .slice none 0 0] 26, .blk (w.heap.size + 1 + 1 + 1) #[.int .i64 0, .slice none 0 0] 26, .blk (w.heap.size + 1 + 1) #[.int .i64 m2, .slice B tt.length d] 26, .blk (w.heap.size + 1) #[.int .i64 v.k, .int .i64 v.n] 31, .blk w.heap.size #[.int .i64 m, .slice A fr.length c] 26] W1 [.blk (w.heap.size + 1 + 1 + 1 + 1 + 1) #[.int .i64 0, .int .i64 0] 31, .blk (w.heap.size + 1 + 1 + 1 + 1) #[.int .i64 0, .slice none 0 0] 26, .blk (w.heap.size + 1 + 1 + 1) #[.int .i64 0, .slice none 0 0] 26, .blk (w.heap.size + 1 + 1) #[.int .i64 m2, .slice B tt.length d] 26, .blk (w.heap.size + 1) #[.int .i64 v.k, .int .i64 v.n] 31, .blk w.heap.size #[.int .i64 m, .slice A fr.length c] 26] := K'
    replace HT := Lib.hid T'
    replace Hr := Lib.hid (Hr.out.move (by decide) K')
    replace Hq := Lib.hid (Hq.out.move (by decide) K')
    clear T' K'
    replace hw : w.heap.size + 1 + 1 + 1 + 1 + 1 + 1 ≤ W1.heap.size := Nat.le_trans hw hb.size
    clear hb
    obtain ⟨r_rV, q_rV, r_rB, q_rB, r_rA, q_rA, r_to, q_to, r_v, q_v, r_from, q_from, -⟩ := HT.out.rules
    have z_rV : w.heap.size + 1 + 1 + 1 + 1 + 1 < W1.heap.size := (HT.out.in_ 0 rfl rfl).2
    have z_rB : w.heap.size + 1 + 1 + 1 + 1 < W1.heap.size := (HT.out.in_ 1 rfl rfl).2
    have z_rA : w.heap.size + 1 + 1 + 1 < W1.heap.size := (HT.out.in_ 2 rfl rfl).2
    have z_to : w.heap.size + 1 + 1 < W1.heap.size := (HT.out.in_ 3 rfl rfl).2
    have z_v : w.heap.size + 1 < W1.heap.size := (HT.out.in_ 4 rfl rfl).2
    have z_from : w.heap.size < W1.heap.size := (HT.out.in_ 5 rfl rfl).2
    go_wp2_with fail
    clear r_rV q_rV r_rB q_rB r_rA q_rA r_to q_to r_v q_v r_from q_from z_rV z_rB z_rA z_to z_v z_from
    obtain ⟨T', K'⟩ := HT.out.put2 2 (.int .i64 0) (.slice none 0 0) rfl rfl
    replace T' : St w.heap.size w (((W1.setCell ⟨w.heap.size + 1 + 1 + 1, 0, none⟩ (.int .i64 0)).setCell ⟨w.heap.size + 1 + 1 + 1, 1, none⟩ (.slice none 0 0))) [.blk (w.heap.size + 1 + 1 + 1 + 1 + 1) #[.int .i64 0, .int .i64 0] 31, .blk (w.heap.size + 1 + 1 + 1 + 1) #[.int .i64 0, .slice none 0 0] 26, .blk (w.heap.size + 1 + 1 + 1) #[.int .i64 0, .slice none 0 0] 26, .blk (w.heap.size + 1 + 1) #[.int .i64 m2, .slice B tt.length d] 26, .blk (w.heap.size + 1) #[.int .i64 v.k, .int .i64 v.n] 31, .blk w.heap.size #[.int .i64 m, .slice A fr.length c] 26] := T'
    replace K' : Keeps W1 [.blk (w.heap.size + 1 + 1 + 1 + 1 + 1) #[.int .i64 0, .int .i64 0] 31, .blk (w.heap.size + 1 + 1 + 1 + 1) #[.int .i64 0, .slice none 0 0] 26, .blk (w.heap.size + 1 + 1 + 1) #[.int .i64 0, .slice none 0 0] 26, .blk (w.heap.size + 1 + 1) #[.int .i64 m2, .slice B tt.length d] 26, .blk (w.heap.size + 1) #[.int .i64 v.k, .int .i64 v.n] 31, .blk w.heap.size #[.int .i64 m, .slice A fr.length c] 26] (((W1.setCell ⟨w.heap.size + 1 + 1 + 1, 0, none⟩ (.int .i64 0)).setCell ⟨w.heap.size + 1 + 1 + 1, 1, none⟩ (.slice none 0 0))) [.blk (w.heap.size + 1 + 1 + 1 + 1 + 1) #[.int .i64 0, .int .i64 0] 31, .blk (w.heap.size + 1 + 1 + 1 + 1) #[.int .i64 0, .slice none 0 0] 26, .blk (w.heap.size + 1 + 1 + 1) #[.int .i64 0, .slice none 0 0] 26, .blk (w.heap.size + 1 + 1) #[.int .i64 m2, .slice B tt.length d] 26, .blk (w.heap.size + 1) #[.int .i64 v.k, .int .i64 v.n] 31, .blk w.heap.size #[.int .i64 m, .slice A fr.length c] 26] := K'
    replace HT := Lib.hid T'
    replace Hr := Lib.hid (Hr.out.move (by decide) K')
    replace Hq := Lib.hid (Hq.out.move (by decide) K')
    clear T' K'
    replace hw : w.heap.size + 1 + 1 + 1 + 1 + 1 + 1 ≤ (((W1.setCell ⟨w.heap.size + 1 + 1 + 1, 0, none⟩ (.int .i64 0)).setCell ⟨w.heap.size + 1 + 1 + 1, 1, none⟩ (.slice none 0 0))).heap.size := by simpa using hw
    generalize (W1.setCell ⟨w.heap.size + 1 + 1 + 1, 0, none⟩ (.int .i64 0)).setCell ⟨w.heap.size + 1 + 1 + 1, 1, none⟩ (.slice none 0 0) = W1s1 at *
    obtain ⟨T', K'⟩ := HT.out.put2 1 (.int .i64 0) (.slice none 0 0) rfl rfl
    replace T' : St w.heap.size w (((W1s1.setCell ⟨w.heap.size + 1 + 1 + 1 + 1, 0, none⟩ (.int .i64 0)).setCell ⟨w.heap.size + 1 + 1 + 1 + 1, 1, none⟩ (.slice none 0 0))) [.blk (w.heap.size + 1 + 1 + 1 + 1 + 1) #[.int .i64 0, .int .i64 0] 31, .blk (w.heap.size + 1 + 1 + 1 + 1) #[.int .i64 0, .slice none 0 0] 26, .blk (w.heap.size + 1 + 1 + 1) #[.int .i64 0, .slice none 0 0] 26, .blk (w.heap.size + 1 + 1) #[.int .i64 m2, .slice B tt.length d] 26, .blk (w.heap.size + 1) #[.int .i64 v.k, .int .i64 v.n] 31, .blk w.heap.size #[.int .i64 m, .slice A fr.length c] 26] := T'
    replace K' : Keeps W1s1 [.blk (w.heap.size + 1 + 1 + 1 + 1 + 1) #[.int .i64 0, .int .i64 0] 31, .blk (w.heap.size + 1 + 1 + 1 + 1) #[.int .i64 0, .slice none 0 0] 26, .blk (w.heap.size + 1 + 1 + 1) #[.int .i64 0, .slice none 0 0] 26, .blk (w.heap.size + 1 + 1) #[.int .i64 m2, .slice B tt.length d] 26, .blk (w.heap.size + 1) #[.int .i64 v.k, .int .i64 v.n] 31, .blk w.heap.size #[.int .i64 m, .slice A fr.length c] 26] (((W1s1.setCell ⟨w.heap.size + 1 + 1 + 1 + 1, 0, none⟩ (.int .i64 0)).setCell ⟨w.heap.size + 1 + 1 + 1 + 1, 1, none⟩ (.slice none 0 0))) [.blk (w.heap.size + 1 + 1 + 1 + 1 + 1) #[.int .i64 0, .int .i64 0] 31, .blk (w.heap.size + 1 + 1 + 1 + 1) #[.int .i64 0, .slice none 0 0] 26, .blk (w.heap.size + 1 + 1 + 1) #[.int .i64 0, .slice none 0 0] 26, .blk (w.heap.size + 1 + 1) #[.int .i64 m2, .slice B tt.length d] 26, .blk (w.heap.size + 1) #[.int .i64 v.k, .int .i64 v.n] 31, .blk w.heap.size #[.int .i64 m, .slice A fr.length c] 26] := K'
    replace HT := Lib.hid T'
    replace Hr := Lib.hid (Hr.out.move (by decide) K')
    replace Hq := Lib.hid (Hq.out.move (by decide) K')
    clear T' K'
    replace hw : w.heap.size + 1 + 1 + 1 + 1 + 1 + 1 ≤ (((W1s1.setCell ⟨w.heap.size + 1 + 1 + 1 + 1, 0, none⟩ (.int .i64 0)).setCell ⟨w.heap.size + 1 + 1 + 1 + 1, 1, none⟩ (.slice none 0 0))).heap.size := by simpa using hw
    generalize (W1s1.setCell ⟨w.heap.size + 1 + 1 + 1 + 1, 0, none⟩ (.int .i64 0)).setCell ⟨w.heap.size + 1 + 1 + 1 + 1, 1, none⟩ (.slice none 0 0) = W1s2 at *
    obtain ⟨T', K'⟩ := HT.out.put2 0 (.int .i64 0) (.int .i64 0) rfl rfl
    replace T' : St w.heap.size w (((W1s2.setCell ⟨w.heap.size + 1 + 1 + 1 + 1 + 1, 0, none⟩ (.int .i64 0)).setCell ⟨w.heap.size + 1 + 1 + 1 + 1 + 1, 1, none⟩ (.int .i64 0))) [.blk (w.heap.size + 1 + 1 + 1 + 1 + 1) #[.int .i64 0, .int .i64 0] 31, .blk (w.heap.size + 1 + 1 + 1 + 1) #[.int .i64 0, .slice none 0 0] 26, .blk (w.heap.size + 1 + 1 + 1) #[.int .i64 0, .slice none 0 0] 26, .blk (w.heap.size + 1 + 1) #[.int .i64 m2, .slice B tt.length d] 26, .blk (w.heap.size + 1) #[.int .i64 v.k, .int .i64 v.n] 31, .blk w.heap.size #[.int .i64 m, .slice A fr.length c] 26] := T'
    replace K' : Keeps W1s2 [.blk (w.heap.size + 1 + 1 + 1 + 1 + 1) #[.int .i64 0, .int .i64 0] 31, .blk (w.heap.size + 1 + 1 + 1 + 1) #[.int .i64 0, .slice none 0 0] 26, .blk (w.heap.size + 1 + 1 + 1) #[.int .i64 0, .slice none 0 0] 26, .blk (w.heap.size + 1 + 1) #[.int .i64 m2, .slice B tt.length d] 26, .blk (w.heap.size + 1) #[.int .i64 v.k, .int .i64 v.n] 31, .blk w.heap.size #[.int .i64 m, .slice A fr.length c] 26] (((W1s2.setCell ⟨w.heap.size + 1 + 1 + 1 + 1 + 1, 0, none⟩ (.int .i64 0)).setCell ⟨w.heap.size + 1 + 1 + 1 + 1 + 1, 1, none⟩ (.int .i64 0))) [.blk (w.heap.size + 1 + 1 + 1 + 1 + 1) #[.int .i64 0, .int .i64 0] 31, .blk (w.heap.size + 1 + 1 + 1 + 1) #[.int .i64 0, .slice none 0 0] 26, .blk (w.heap.size + 1 + 1 + 1) #[.int .i64 0, .slice none 0 0] 26, .blk (w.heap.size + 1 + 1) #[.int .i64 m2, .slice B tt.length d] 26, .blk (w.heap.size + 1) #[.int .i64 v.k, .int .i64 v.n] 31, .blk w.heap.size #[.int .i64 m, .slice A fr.length c] 26] := K'
    replace HT := Lib.hid T'
    replace Hr := Lib.hid (Hr.out.move (by decide) K')
    replace Hq := Lib.hid (Hq.out.move (by decide) K')
    clear T' K'
    replace hw : w.heap.size + 1 + 1 + 1 + 1 + 1 + 1 ≤ (((W1s2.setCell ⟨w.heap.size + 1 + 1 + 1 + 1 + 1, 0, none⟩ (.int .i64 0)).setCell ⟨w.heap.size + 1 + 1 + 1 + 1 + 1, 1, none⟩ (.int .i64 0))).heap.size := by simpa using hw
    generalize (W1s2.setCell ⟨w.heap.size + 1 + 1 + 1 + 1 + 1, 0, none⟩ (.int .i64 0)).setCell ⟨w.heap.size + 1 + 1 + 1 + 1 + 1, 1, none⟩ (.int .i64 0) = W1s3 at *
    obtain ⟨r_rV, q_rV, r_rB, q_rB, r_rA, q_rA, -⟩ := HT.out.rules
    have z_rV : w.heap.size + 1 + 1 + 1 + 1 + 1 < W1s3.heap.size := (HT.out.in_ 0 rfl rfl).2
    have z_rB : w.heap.size + 1 + 1 + 1 + 1 < W1s3.heap.size := (HT.out.in_ 1 rfl rfl).2
    have z_rA : w.heap.size + 1 + 1 + 1 < W1s3.heap.size := (HT.out.in_ 2 rfl rfl).2
    refine bodyPost_ret (v := .tuple #[.agg #[.int .i64 0, .slice none 0 0], .agg #[.int .i64 0, .slice none 0 0], .agg #[.int .i64 0, .int .i64 0], .int .i64 8]) (by simp [results, Try.results18, go_sem, r_rA, r_rB, r_rV]) rfl (by rw [HRF.out]; exact ⟨_, _, rfl, .zero, .zero, HT.out.below⟩)
end Go.Proofs.Ytfafnjkinolkmaa
