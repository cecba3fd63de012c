/- THE STATEMENT 'HeapTransfers': for every input the call returns true, and each argument reads behind it as it did: proved out of the walks. No condition beside the row's own. -/
import Derived.Test.YtfafnjkinolkmaaTransferOf
import Derived.Test.YtfafnjkinolkmaaHeapCopy
import Derived.Test.YtfafnjkinolkmaaSame
import Derived.Test.YtfafnjkinolkmaaArgs
import Derived.Test.YtfafnjkinolkmaaFacts
set_option maxRecDepth 100000
namespace Go.Proofs.Ytfafnjkinolkmaa.lawHeapTransfers
open Go.ChangeShapes Go.WideShapes Go.ChangeAt Go.RowKit
set_option linter.unusedVariables false

set_option maxHeartbeats 4000000 in
theorem walk (w : World) (m : Int) (fr : List Ob) (A : Option Addr) (c : Nat) (hr : RdSl obE w (fun _ => True) (.slice A fr.length c) fr) (v : V) (m2 : Int) (tt : List Ob) (B : Option Addr) (d : Nat) (hq : RdSl obE w (fun _ => True) (.slice B tt.length d) tt) (move : Bool) :
    Calls Try.prog 5 #[.agg #[.int .i64 m, .slice A fr.length c], .agg #[.int .i64 v.k, .int .i64 v.n], .agg #[.int .i64 m2, .slice B tt.length d], .bool move] w fun e w' => e = .returned (.bool true) ∧ Below w.heap.size w w' := by
  have Hr := Lib.hid hr
  have Hq := Lib.hid hq
  clear hr hq
  have G1 := Lib.hid (fun W S T A B c d (hr : RdSl obE W S (.slice A fr.length c) fr) (hq : RdSl obE W T (.slice B tt.length d) tt) => transfer_any m m2 S T A B c d fr tt v move W hr hq)
  have G2 := Lib.hid (fun W S T A B c d (hr : RdSl obE W S (.slice A fr.length c) fr) (hq : RdSl obE W T (.slice B tt.length d) tt) => transferOf_any m m2 S T A B c d fr tt v move W hr hq)
  unfold TransD at G1 G2
  generalize transE ⟨m, fr⟩ v ⟨m2, tt⟩ (reachL fr [v]) = te at *
  generalize transFrom ⟨m, fr⟩ v ⟨m2, tt⟩ (reachL fr [v]) move = tf at *
  generalize transTo ⟨m, fr⟩ v ⟨m2, tt⟩ (reachL fr [v]) = tg at *
  generalize transV ⟨m, fr⟩ v ⟨m2, tt⟩ (reachL fr [v]) = tv at *
  obtain ⟨tk, tn⟩ := tv
  obtain ⟨mf, of_⟩ := tf
  obtain ⟨mt, ot⟩ := tg
  dsimp only at G1 G2
  have T0 : St w.heap.size w ((((w.alloc (.cells #[.int .i64 m, .slice A fr.length c] 26)).alloc (.cells #[.int .i64 v.k, .int .i64 v.n] 31)).alloc (.cells #[.int .i64 m2, .slice B tt.length d] 26))) [.blk (w.heap.size + 1 + 1) #[.int .i64 m2, .slice B tt.length d] 26, .blk (w.heap.size + 1) #[.int .i64 v.k, .int .i64 v.n] 31, .blk w.heap.size #[.int .i64 m, .slice A fr.length c] 26] := ((((((St.start w (Nat.le_refl _)).new' #[.int .i64 m, .slice A fr.length c] 26 (w.heap.size) (by simp)).1).new' #[.int .i64 v.k, .int .i64 v.n] 31 (w.heap.size + 1) (by simp)).1).new' #[.int .i64 m2, .slice B tt.length d] 26 (w.heap.size + 1 + 1) (by simp)).1
  have HT := Lib.hid T0
  have hw : w.heap.size + 1 + 1 + 1 ≤ (((w.alloc (.cells #[.int .i64 m, .slice A fr.length c] 26)).alloc (.cells #[.int .i64 v.k, .int .i64 v.n] 31)).alloc (.cells #[.int .i64 m2, .slice B tt.length d] 26)).heap.size := by simp
  replace Hr := Lib.hid (Hr.out.pool (by decide) T0)
  replace Hq := Lib.hid (Hq.out.pool (by decide) T0)
  clear T0
  go_enter Try.func5, Try.ntmps5
  go_upto_region 1 with fail
  generalize (((w.alloc (.cells #[.int .i64 m, .slice A fr.length c] 26)).alloc (.cells #[.int .i64 v.k, .int .i64 v.n] 31)).alloc (.cells #[.int .i64 m2, .slice B tt.length d] 26)) = W0 at *
  obtain ⟨r_to, q_to, r_v, q_v, r_from, q_from, -⟩ := HT.out.rules
  have z_to : w.heap.size + 1 + 1 < W0.heap.size := (HT.out.in_ 0 rfl rfl).2
  have z_v : w.heap.size + 1 < W0.heap.size := (HT.out.in_ 1 rfl rfl).2
  have z_from : w.heap.size < W0.heap.size := (HT.out.in_ 2 rfl rfl).2
  go_wp2_with fail
  refine (heapCopy_any m _ A c fr _ Hr.out).mono ?_
  rintro e W1 ⟨v1, vs1, rfl, hsep, hs, hb⟩
  obtain ⟨A1, c1, rfl⟩ := own_form hsep.row
  clear r_to q_to r_v q_v r_from q_from z_to z_v z_from
  have Hk0 := Lib.hid (hsep.rd hs)
  have Hfresh := Lib.hid (HT.out)
  obtain ⟨T', K'⟩ := HT.out.call hb
  replace T' : St w.heap.size w W1 [.blk (w.heap.size + 1 + 1) #[.int .i64 m2, .slice B tt.length d] 26, .blk (w.heap.size + 1) #[.int .i64 v.k, .int .i64 v.n] 31, .blk w.heap.size #[.int .i64 m, .slice A fr.length c] 26] := T'
  replace K' : Keeps W0 [.blk (w.heap.size + 1 + 1) #[.int .i64 m2, .slice B tt.length d] 26, .blk (w.heap.size + 1) #[.int .i64 v.k, .int .i64 v.n] 31, .blk w.heap.size #[.int .i64 m, .slice A fr.length c] 26] W1 [.blk (w.heap.size + 1 + 1) #[.int .i64 m2, .slice B tt.length d] 26, .blk (w.heap.size + 1) #[.int .i64 v.k, .int .i64 v.n] 31, .blk w.heap.size #[.int .i64 m, .slice A fr.length c] 26] := K'
  replace HT := Lib.hid T'
  replace Hr := Lib.hid (Hr.out.move (by decide) K')
  replace Hq := Lib.hid (Hq.out.move (by decide) K')
  clear T' K'
  replace hw : w.heap.size + 1 + 1 + 1 ≤ W1.heap.size := Nat.le_trans hw hb.size
  clear hb
  have Hk := Lib.hid (Hk0.out.fresh (by decide) Hfresh.out (Nat.zero_le _))
  clear Hk0 Hfresh hsep hs
  obtain ⟨r_to, q_to, r_v, q_v, r_from, q_from, -⟩ := HT.out.rules
  have z_to : w.heap.size + 1 + 1 < W1.heap.size := (HT.out.in_ 0 rfl rfl).2
  have z_v : w.heap.size + 1 < W1.heap.size := (HT.out.in_ 1 rfl rfl).2
  have z_from : w.heap.size < W1.heap.size := (HT.out.in_ 2 rfl rfl).2
  go_upto_region 2 with fail
  obtain ⟨T', K'⟩ := HT.out.new' #[.int .i64 m, .slice A1 fr.length c1] 26 W1.heap.size (by first | (simp; done) | rfl)
  replace T' : St w.heap.size w ((W1.alloc (.cells #[.int .i64 m, .slice A1 fr.length c1] 26))) [.blk W1.heap.size #[.int .i64 m, .slice A1 fr.length c1] 26, .blk (w.heap.size + 1 + 1) #[.int .i64 m2, .slice B tt.length d] 26, .blk (w.heap.size + 1) #[.int .i64 v.k, .int .i64 v.n] 31, .blk w.heap.size #[.int .i64 m, .slice A fr.length c] 26] := T'
  replace K' : Keeps W1 [.blk (w.heap.size + 1 + 1) #[.int .i64 m2, .slice B tt.length d] 26, .blk (w.heap.size + 1) #[.int .i64 v.k, .int .i64 v.n] 31, .blk w.heap.size #[.int .i64 m, .slice A fr.length c] 26] ((W1.alloc (.cells #[.int .i64 m, .slice A1 fr.length c1] 26))) [.blk W1.heap.size #[.int .i64 m, .slice A1 fr.length c1] 26, .blk (w.heap.size + 1 + 1) #[.int .i64 m2, .slice B tt.length d] 26, .blk (w.heap.size + 1) #[.int .i64 v.k, .int .i64 v.n] 31, .blk w.heap.size #[.int .i64 m, .slice A fr.length c] 26] := K'
  replace HT := Lib.hid T'
  replace Hr := Lib.hid (Hr.out.move (by decide) K')
  replace Hq := Lib.hid (Hq.out.move (by decide) K')
  replace Hk := Lib.hid (Hk.out.move (by decide) K')
  clear T' K'
  replace hw : w.heap.size + 1 + 1 + 1 ≤ ((W1.alloc (.cells #[.int .i64 m, .slice A1 fr.length c1] 26))).heap.size := Nat.le_trans hw (by simp)
  clear r_to q_to r_v q_v r_from q_from z_to z_v z_from
  generalize (W1.alloc (.cells #[.int .i64 m, .slice A1 fr.length c1] 26)) = V1 at *
  obtain ⟨r_k, q_k, r_to, q_to, r_v, q_v, r_from, q_from, -⟩ := HT.out.rules
  have z_k : W1.heap.size < V1.heap.size := (HT.out.in_ 0 rfl rfl).2
  have z_to : w.heap.size + 1 + 1 < V1.heap.size := (HT.out.in_ 1 rfl rfl).2
  have z_v : w.heap.size + 1 < V1.heap.size := (HT.out.in_ 2 rfl rfl).2
  have z_from : w.heap.size < V1.heap.size := (HT.out.in_ 3 rfl rfl).2
  go_wp2_with fail
  refine (heapCopy_any m2 _ B d tt _ Hq.out).mono ?_
  rintro e W2 ⟨v2, vs2, rfl, hsep, hs, hb⟩
  obtain ⟨A2, c2, rfl⟩ := own_form hsep.row
  clear r_k q_k r_to q_to r_v q_v r_from q_from z_k z_to z_v z_from
  have Hm0 := Lib.hid (hsep.rd hs)
  have Hfresh := Lib.hid (HT.out)
  obtain ⟨T', K'⟩ := HT.out.call hb
  replace T' : St w.heap.size w W2 [.blk W1.heap.size #[.int .i64 m, .slice A1 fr.length c1] 26, .blk (w.heap.size + 1 + 1) #[.int .i64 m2, .slice B tt.length d] 26, .blk (w.heap.size + 1) #[.int .i64 v.k, .int .i64 v.n] 31, .blk w.heap.size #[.int .i64 m, .slice A fr.length c] 26] := T'
  replace K' : Keeps V1 [.blk W1.heap.size #[.int .i64 m, .slice A1 fr.length c1] 26, .blk (w.heap.size + 1 + 1) #[.int .i64 m2, .slice B tt.length d] 26, .blk (w.heap.size + 1) #[.int .i64 v.k, .int .i64 v.n] 31, .blk w.heap.size #[.int .i64 m, .slice A fr.length c] 26] W2 [.blk W1.heap.size #[.int .i64 m, .slice A1 fr.length c1] 26, .blk (w.heap.size + 1 + 1) #[.int .i64 m2, .slice B tt.length d] 26, .blk (w.heap.size + 1) #[.int .i64 v.k, .int .i64 v.n] 31, .blk w.heap.size #[.int .i64 m, .slice A fr.length c] 26] := K'
  replace HT := Lib.hid T'
  replace Hr := Lib.hid (Hr.out.move (by decide) K')
  replace Hq := Lib.hid (Hq.out.move (by decide) K')
  replace Hk := Lib.hid (Hk.out.move (by decide) K')
  clear T' K'
  replace hw : w.heap.size + 1 + 1 + 1 ≤ W2.heap.size := Nat.le_trans hw hb.size
  clear hb
  have Hm := Lib.hid (Hm0.out.fresh (by decide) Hfresh.out (Nat.zero_le _))
  clear Hm0 Hfresh hsep hs
  obtain ⟨r_k, q_k, r_to, q_to, r_v, q_v, r_from, q_from, -⟩ := HT.out.rules
  have z_k : W1.heap.size < W2.heap.size := (HT.out.in_ 0 rfl rfl).2
  have z_to : w.heap.size + 1 + 1 < W2.heap.size := (HT.out.in_ 1 rfl rfl).2
  have z_v : w.heap.size + 1 < W2.heap.size := (HT.out.in_ 2 rfl rfl).2
  have z_from : w.heap.size < W2.heap.size := (HT.out.in_ 3 rfl rfl).2
  go_upto_region 3 with fail
  obtain ⟨T', K'⟩ := HT.out.new' #[.int .i64 m2, .slice A2 tt.length c2] 26 W2.heap.size (by first | (simp; done) | rfl)
  replace T' : St w.heap.size w ((W2.alloc (.cells #[.int .i64 m2, .slice A2 tt.length c2] 26))) [.blk W2.heap.size #[.int .i64 m2, .slice A2 tt.length c2] 26, .blk W1.heap.size #[.int .i64 m, .slice A1 fr.length c1] 26, .blk (w.heap.size + 1 + 1) #[.int .i64 m2, .slice B tt.length d] 26, .blk (w.heap.size + 1) #[.int .i64 v.k, .int .i64 v.n] 31, .blk w.heap.size #[.int .i64 m, .slice A fr.length c] 26] := T'
  replace K' : Keeps W2 [.blk W1.heap.size #[.int .i64 m, .slice A1 fr.length c1] 26, .blk (w.heap.size + 1 + 1) #[.int .i64 m2, .slice B tt.length d] 26, .blk (w.heap.size + 1) #[.int .i64 v.k, .int .i64 v.n] 31, .blk w.heap.size #[.int .i64 m, .slice A fr.length c] 26] ((W2.alloc (.cells #[.int .i64 m2, .slice A2 tt.length c2] 26))) [.blk W2.heap.size #[.int .i64 m2, .slice A2 tt.length c2] 26, .blk W1.heap.size #[.int .i64 m, .slice A1 fr.length c1] 26, .blk (w.heap.size + 1 + 1) #[.int .i64 m2, .slice B tt.length d] 26, .blk (w.heap.size + 1) #[.int .i64 v.k, .int .i64 v.n] 31, .blk w.heap.size #[.int .i64 m, .slice A fr.length c] 26] := K'
  replace HT := Lib.hid T'
  replace Hr := Lib.hid (Hr.out.move (by decide) K')
  replace Hq := Lib.hid (Hq.out.move (by decide) K')
  replace Hk := Lib.hid (Hk.out.move (by decide) K')
  replace Hm := Lib.hid (Hm.out.move (by decide) K')
  clear T' K'
  replace hw : w.heap.size + 1 + 1 + 1 ≤ ((W2.alloc (.cells #[.int .i64 m2, .slice A2 tt.length c2] 26))).heap.size := Nat.le_trans hw (by simp)
  clear r_k q_k r_to q_to r_v q_v r_from q_from z_k z_to z_v z_from
  generalize (W2.alloc (.cells #[.int .i64 m2, .slice A2 tt.length c2] 26)) = V2 at *
  obtain ⟨r_m, q_m, r_k, q_k, r_to, q_to, r_v, q_v, r_from, q_from, -⟩ := HT.out.rules
  have z_m : W2.heap.size < V2.heap.size := (HT.out.in_ 0 rfl rfl).2
  have z_k : W1.heap.size < V2.heap.size := (HT.out.in_ 1 rfl rfl).2
  have z_to : w.heap.size + 1 + 1 < V2.heap.size := (HT.out.in_ 2 rfl rfl).2
  have z_v : w.heap.size + 1 < V2.heap.size := (HT.out.in_ 3 rfl rfl).2
  have z_from : w.heap.size < V2.heap.size := (HT.out.in_ 4 rfl rfl).2
  go_wp2_with fail
  refine (G1.out _ _ _ _ _ _ _ Hk.out Hm.out).mono ?_
  rintro e W3 ⟨u3, s3, rfl, ⟨A3, a3, rfl, hra⟩, ⟨B3, b3, rfl, hrb⟩, hb⟩
  clear r_m q_m r_k q_k r_to q_to r_v q_v r_from q_from z_m z_k z_to z_v z_from
  have Hfresh := Lib.hid (HT.out)
  obtain ⟨T', K'⟩ := HT.out.call hb
  replace T' : St w.heap.size w W3 [.blk W2.heap.size #[.int .i64 m2, .slice A2 tt.length c2] 26, .blk W1.heap.size #[.int .i64 m, .slice A1 fr.length c1] 26, .blk (w.heap.size + 1 + 1) #[.int .i64 m2, .slice B tt.length d] 26, .blk (w.heap.size + 1) #[.int .i64 v.k, .int .i64 v.n] 31, .blk w.heap.size #[.int .i64 m, .slice A fr.length c] 26] := T'
  replace K' : Keeps V2 [.blk W2.heap.size #[.int .i64 m2, .slice A2 tt.length c2] 26, .blk W1.heap.size #[.int .i64 m, .slice A1 fr.length c1] 26, .blk (w.heap.size + 1 + 1) #[.int .i64 m2, .slice B tt.length d] 26, .blk (w.heap.size + 1) #[.int .i64 v.k, .int .i64 v.n] 31, .blk w.heap.size #[.int .i64 m, .slice A fr.length c] 26] W3 [.blk W2.heap.size #[.int .i64 m2, .slice A2 tt.length c2] 26, .blk W1.heap.size #[.int .i64 m, .slice A1 fr.length c1] 26, .blk (w.heap.size + 1 + 1) #[.int .i64 m2, .slice B tt.length d] 26, .blk (w.heap.size + 1) #[.int .i64 v.k, .int .i64 v.n] 31, .blk w.heap.size #[.int .i64 m, .slice A fr.length c] 26] := K'
  replace HT := Lib.hid T'
  replace Hr := Lib.hid (Hr.out.move (by decide) K')
  replace Hq := Lib.hid (Hq.out.move (by decide) K')
  replace Hk := Lib.hid (Hk.out.move (by decide) K')
  replace Hm := Lib.hid (Hm.out.move (by decide) K')
  clear T' K'
  replace hw : w.heap.size + 1 + 1 + 1 ≤ W3.heap.size := Nat.le_trans hw hb.size
  clear hb
  have Ha3 := Lib.hid (hra.fresh (by decide) Hfresh.out (Nat.zero_le _))
  have Hb3 := Lib.hid (hrb.fresh (by decide) Hfresh.out (Nat.zero_le _))
  clear Hfresh hra hrb
  obtain ⟨r_m, q_m, r_k, q_k, r_to, q_to, r_v, q_v, r_from, q_from, -⟩ := HT.out.rules
  have z_m : W2.heap.size < W3.heap.size := (HT.out.in_ 0 rfl rfl).2
  have z_k : W1.heap.size < W3.heap.size := (HT.out.in_ 1 rfl rfl).2
  have z_to : w.heap.size + 1 + 1 < W3.heap.size := (HT.out.in_ 2 rfl rfl).2
  have z_v : w.heap.size + 1 < W3.heap.size := (HT.out.in_ 3 rfl rfl).2
  have z_from : w.heap.size < W3.heap.size := (HT.out.in_ 4 rfl rfl).2
  go_upto_region 4 with fail
  obtain ⟨T', K'⟩ := HT.out.new' #[.int .i64 mf, .slice A3 of_.length a3] 26 W3.heap.size (by first | (simp; done) | rfl)
  replace T' : St w.heap.size w ((W3.alloc (.cells #[.int .i64 mf, .slice A3 of_.length a3] 26))) [.blk W3.heap.size #[.int .i64 mf, .slice A3 of_.length a3] 26, .blk W2.heap.size #[.int .i64 m2, .slice A2 tt.length c2] 26, .blk W1.heap.size #[.int .i64 m, .slice A1 fr.length c1] 26, .blk (w.heap.size + 1 + 1) #[.int .i64 m2, .slice B tt.length d] 26, .blk (w.heap.size + 1) #[.int .i64 v.k, .int .i64 v.n] 31, .blk w.heap.size #[.int .i64 m, .slice A fr.length c] 26] := T'
  replace K' : Keeps W3 [.blk W2.heap.size #[.int .i64 m2, .slice A2 tt.length c2] 26, .blk W1.heap.size #[.int .i64 m, .slice A1 fr.length c1] 26, .blk (w.heap.size + 1 + 1) #[.int .i64 m2, .slice B tt.length d] 26, .blk (w.heap.size + 1) #[.int .i64 v.k, .int .i64 v.n] 31, .blk w.heap.size #[.int .i64 m, .slice A fr.length c] 26] ((W3.alloc (.cells #[.int .i64 mf, .slice A3 of_.length a3] 26))) [.blk W3.heap.size #[.int .i64 mf, .slice A3 of_.length a3] 26, .blk W2.heap.size #[.int .i64 m2, .slice A2 tt.length c2] 26, .blk W1.heap.size #[.int .i64 m, .slice A1 fr.length c1] 26, .blk (w.heap.size + 1 + 1) #[.int .i64 m2, .slice B tt.length d] 26, .blk (w.heap.size + 1) #[.int .i64 v.k, .int .i64 v.n] 31, .blk w.heap.size #[.int .i64 m, .slice A fr.length c] 26] := K'
  replace HT := Lib.hid T'
  replace Hr := Lib.hid (Hr.out.move (by decide) K')
  replace Hq := Lib.hid (Hq.out.move (by decide) K')
  replace Hk := Lib.hid (Hk.out.move (by decide) K')
  replace Hm := Lib.hid (Hm.out.move (by decide) K')
  replace Ha3 := Lib.hid (Ha3.out.move (by decide) K')
  replace Hb3 := Lib.hid (Hb3.out.move (by decide) K')
  clear T' K'
  replace hw : w.heap.size + 1 + 1 + 1 ≤ ((W3.alloc (.cells #[.int .i64 mf, .slice A3 of_.length a3] 26))).heap.size := Nat.le_trans hw (by simp)
  obtain ⟨T', K'⟩ := HT.out.new' #[.int .i64 mt, .slice B3 ot.length b3] 26 (W3.heap.size + 1) (by first | (simp; done) | rfl)
  replace T' : St w.heap.size w (((W3.alloc (.cells #[.int .i64 mf, .slice A3 of_.length a3] 26)).alloc (.cells #[.int .i64 mt, .slice B3 ot.length b3] 26))) [.blk (W3.heap.size + 1) #[.int .i64 mt, .slice B3 ot.length b3] 26, .blk W3.heap.size #[.int .i64 mf, .slice A3 of_.length a3] 26, .blk W2.heap.size #[.int .i64 m2, .slice A2 tt.length c2] 26, .blk W1.heap.size #[.int .i64 m, .slice A1 fr.length c1] 26, .blk (w.heap.size + 1 + 1) #[.int .i64 m2, .slice B tt.length d] 26, .blk (w.heap.size + 1) #[.int .i64 v.k, .int .i64 v.n] 31, .blk w.heap.size #[.int .i64 m, .slice A fr.length c] 26] := T'
  replace K' : Keeps ((W3.alloc (.cells #[.int .i64 mf, .slice A3 of_.length a3] 26))) [.blk W3.heap.size #[.int .i64 mf, .slice A3 of_.length a3] 26, .blk W2.heap.size #[.int .i64 m2, .slice A2 tt.length c2] 26, .blk W1.heap.size #[.int .i64 m, .slice A1 fr.length c1] 26, .blk (w.heap.size + 1 + 1) #[.int .i64 m2, .slice B tt.length d] 26, .blk (w.heap.size + 1) #[.int .i64 v.k, .int .i64 v.n] 31, .blk w.heap.size #[.int .i64 m, .slice A fr.length c] 26] (((W3.alloc (.cells #[.int .i64 mf, .slice A3 of_.length a3] 26)).alloc (.cells #[.int .i64 mt, .slice B3 ot.length b3] 26))) [.blk (W3.heap.size + 1) #[.int .i64 mt, .slice B3 ot.length b3] 26, .blk W3.heap.size #[.int .i64 mf, .slice A3 of_.length a3] 26, .blk W2.heap.size #[.int .i64 m2, .slice A2 tt.length c2] 26, .blk W1.heap.size #[.int .i64 m, .slice A1 fr.length c1] 26, .blk (w.heap.size + 1 + 1) #[.int .i64 m2, .slice B tt.length d] 26, .blk (w.heap.size + 1) #[.int .i64 v.k, .int .i64 v.n] 31, .blk w.heap.size #[.int .i64 m, .slice A fr.length c] 26] := K'
  replace HT := Lib.hid T'
  replace Hr := Lib.hid (Hr.out.move (by decide) K')
  replace Hq := Lib.hid (Hq.out.move (by decide) K')
  replace Hk := Lib.hid (Hk.out.move (by decide) K')
  replace Hm := Lib.hid (Hm.out.move (by decide) K')
  replace Ha3 := Lib.hid (Ha3.out.move (by decide) K')
  replace Hb3 := Lib.hid (Hb3.out.move (by decide) K')
  clear T' K'
  replace hw : w.heap.size + 1 + 1 + 1 ≤ (((W3.alloc (.cells #[.int .i64 mf, .slice A3 of_.length a3] 26)).alloc (.cells #[.int .i64 mt, .slice B3 ot.length b3] 26))).heap.size := Nat.le_trans hw (by simp)
  obtain ⟨T', K'⟩ := HT.out.new' #[.int .i64 tk, .int .i64 tn] 31 (W3.heap.size + 1 + 1) (by first | (simp; done) | rfl)
  replace T' : St w.heap.size w ((((W3.alloc (.cells #[.int .i64 mf, .slice A3 of_.length a3] 26)).alloc (.cells #[.int .i64 mt, .slice B3 ot.length b3] 26)).alloc (.cells #[.int .i64 tk, .int .i64 tn] 31))) [.blk (W3.heap.size + 1 + 1) #[.int .i64 tk, .int .i64 tn] 31, .blk (W3.heap.size + 1) #[.int .i64 mt, .slice B3 ot.length b3] 26, .blk W3.heap.size #[.int .i64 mf, .slice A3 of_.length a3] 26, .blk W2.heap.size #[.int .i64 m2, .slice A2 tt.length c2] 26, .blk W1.heap.size #[.int .i64 m, .slice A1 fr.length c1] 26, .blk (w.heap.size + 1 + 1) #[.int .i64 m2, .slice B tt.length d] 26, .blk (w.heap.size + 1) #[.int .i64 v.k, .int .i64 v.n] 31, .blk w.heap.size #[.int .i64 m, .slice A fr.length c] 26] := T'
  replace K' : Keeps (((W3.alloc (.cells #[.int .i64 mf, .slice A3 of_.length a3] 26)).alloc (.cells #[.int .i64 mt, .slice B3 ot.length b3] 26))) [.blk (W3.heap.size + 1) #[.int .i64 mt, .slice B3 ot.length b3] 26, .blk W3.heap.size #[.int .i64 mf, .slice A3 of_.length a3] 26, .blk W2.heap.size #[.int .i64 m2, .slice A2 tt.length c2] 26, .blk W1.heap.size #[.int .i64 m, .slice A1 fr.length c1] 26, .blk (w.heap.size + 1 + 1) #[.int .i64 m2, .slice B tt.length d] 26, .blk (w.heap.size + 1) #[.int .i64 v.k, .int .i64 v.n] 31, .blk w.heap.size #[.int .i64 m, .slice A fr.length c] 26] ((((W3.alloc (.cells #[.int .i64 mf, .slice A3 of_.length a3] 26)).alloc (.cells #[.int .i64 mt, .slice B3 ot.length b3] 26)).alloc (.cells #[.int .i64 tk, .int .i64 tn] 31))) [.blk (W3.heap.size + 1 + 1) #[.int .i64 tk, .int .i64 tn] 31, .blk (W3.heap.size + 1) #[.int .i64 mt, .slice B3 ot.length b3] 26, .blk W3.heap.size #[.int .i64 mf, .slice A3 of_.length a3] 26, .blk W2.heap.size #[.int .i64 m2, .slice A2 tt.length c2] 26, .blk W1.heap.size #[.int .i64 m, .slice A1 fr.length c1] 26, .blk (w.heap.size + 1 + 1) #[.int .i64 m2, .slice B tt.length d] 26, .blk (w.heap.size + 1) #[.int .i64 v.k, .int .i64 v.n] 31, .blk w.heap.size #[.int .i64 m, .slice A fr.length c] 26] := K'
  replace HT := Lib.hid T'
  replace Hr := Lib.hid (Hr.out.move (by decide) K')
  replace Hq := Lib.hid (Hq.out.move (by decide) K')
  replace Hk := Lib.hid (Hk.out.move (by decide) K')
  replace Hm := Lib.hid (Hm.out.move (by decide) K')
  replace Ha3 := Lib.hid (Ha3.out.move (by decide) K')
  replace Hb3 := Lib.hid (Hb3.out.move (by decide) K')
  clear T' K'
  replace hw : w.heap.size + 1 + 1 + 1 ≤ ((((W3.alloc (.cells #[.int .i64 mf, .slice A3 of_.length a3] 26)).alloc (.cells #[.int .i64 mt, .slice B3 ot.length b3] 26)).alloc (.cells #[.int .i64 tk, .int .i64 tn] 31))).heap.size := Nat.le_trans hw (by simp)
  clear r_m q_m r_k q_k r_to q_to r_v q_v r_from q_from z_m z_k z_to z_v z_from
  generalize (((W3.alloc (.cells #[.int .i64 mf, .slice A3 of_.length a3] 26)).alloc (.cells #[.int .i64 mt, .slice B3 ot.length b3] 26)).alloc (.cells #[.int .i64 tk, .int .i64 tn] 31)) = V3 at *
  obtain ⟨r_x, q_x, r_b, q_b, r_a, q_a, r_m, q_m, r_k, q_k, r_to, q_to, r_v, q_v, r_from, q_from, -⟩ := HT.out.rules
  have z_x : W3.heap.size + 1 + 1 < V3.heap.size := (HT.out.in_ 0 rfl rfl).2
  have z_b : W3.heap.size + 1 < V3.heap.size := (HT.out.in_ 1 rfl rfl).2
  have z_a : W3.heap.size < V3.heap.size := (HT.out.in_ 2 rfl rfl).2
  have z_m : W2.heap.size < V3.heap.size := (HT.out.in_ 3 rfl rfl).2
  have z_k : W1.heap.size < V3.heap.size := (HT.out.in_ 4 rfl rfl).2
  have z_to : w.heap.size + 1 + 1 < V3.heap.size := (HT.out.in_ 5 rfl rfl).2
  have z_v : w.heap.size + 1 < V3.heap.size := (HT.out.in_ 6 rfl rfl).2
  have z_from : w.heap.size < V3.heap.size := (HT.out.in_ 7 rfl rfl).2
  go_wp2_with fail
  refine (G2.out _ _ _ _ _ _ _ Hr.out Hq.out).mono ?_
  rintro e W4 ⟨u4, s4, rfl, ⟨A4, a4, rfl, hra⟩, ⟨B4, b4, rfl, hrb⟩, hb⟩
  clear r_x q_x r_b q_b r_a q_a r_m q_m r_k q_k r_to q_to r_v q_v r_from q_from z_x z_b z_a z_m z_k z_to z_v z_from
  have Hfresh := Lib.hid (HT.out)
  obtain ⟨T', K'⟩ := HT.out.call hb
  replace T' : St w.heap.size w W4 [.blk (W3.heap.size + 1 + 1) #[.int .i64 tk, .int .i64 tn] 31, .blk (W3.heap.size + 1) #[.int .i64 mt, .slice B3 ot.length b3] 26, .blk W3.heap.size #[.int .i64 mf, .slice A3 of_.length a3] 26, .blk W2.heap.size #[.int .i64 m2, .slice A2 tt.length c2] 26, .blk W1.heap.size #[.int .i64 m, .slice A1 fr.length c1] 26, .blk (w.heap.size + 1 + 1) #[.int .i64 m2, .slice B tt.length d] 26, .blk (w.heap.size + 1) #[.int .i64 v.k, .int .i64 v.n] 31, .blk w.heap.size #[.int .i64 m, .slice A fr.length c] 26] := T'
  replace K' : Keeps V3 [.blk (W3.heap.size + 1 + 1) #[.int .i64 tk, .int .i64 tn] 31, .blk (W3.heap.size + 1) #[.int .i64 mt, .slice B3 ot.length b3] 26, .blk W3.heap.size #[.int .i64 mf, .slice A3 of_.length a3] 26, .blk W2.heap.size #[.int .i64 m2, .slice A2 tt.length c2] 26, .blk W1.heap.size #[.int .i64 m, .slice A1 fr.length c1] 26, .blk (w.heap.size + 1 + 1) #[.int .i64 m2, .slice B tt.length d] 26, .blk (w.heap.size + 1) #[.int .i64 v.k, .int .i64 v.n] 31, .blk w.heap.size #[.int .i64 m, .slice A fr.length c] 26] W4 [.blk (W3.heap.size + 1 + 1) #[.int .i64 tk, .int .i64 tn] 31, .blk (W3.heap.size + 1) #[.int .i64 mt, .slice B3 ot.length b3] 26, .blk W3.heap.size #[.int .i64 mf, .slice A3 of_.length a3] 26, .blk W2.heap.size #[.int .i64 m2, .slice A2 tt.length c2] 26, .blk W1.heap.size #[.int .i64 m, .slice A1 fr.length c1] 26, .blk (w.heap.size + 1 + 1) #[.int .i64 m2, .slice B tt.length d] 26, .blk (w.heap.size + 1) #[.int .i64 v.k, .int .i64 v.n] 31, .blk w.heap.size #[.int .i64 m, .slice A fr.length c] 26] := K'
  replace HT := Lib.hid T'
  replace Hr := Lib.hid (Hr.out.move (by decide) K')
  replace Hq := Lib.hid (Hq.out.move (by decide) K')
  replace Hk := Lib.hid (Hk.out.move (by decide) K')
  replace Hm := Lib.hid (Hm.out.move (by decide) K')
  replace Ha3 := Lib.hid (Ha3.out.move (by decide) K')
  replace Hb3 := Lib.hid (Hb3.out.move (by decide) K')
  clear T' K'
  replace hw : w.heap.size + 1 + 1 + 1 ≤ W4.heap.size := Nat.le_trans hw hb.size
  clear hb
  have Ha4 := Lib.hid (hra.fresh (by decide) Hfresh.out (Nat.zero_le _))
  have Hb4 := Lib.hid (hrb.fresh (by decide) Hfresh.out (Nat.zero_le _))
  clear Hfresh hra hrb
  obtain ⟨r_x, q_x, r_b, q_b, r_a, q_a, r_m, q_m, r_k, q_k, r_to, q_to, r_v, q_v, r_from, q_from, -⟩ := HT.out.rules
  have z_x : W3.heap.size + 1 + 1 < W4.heap.size := (HT.out.in_ 0 rfl rfl).2
  have z_b : W3.heap.size + 1 < W4.heap.size := (HT.out.in_ 1 rfl rfl).2
  have z_a : W3.heap.size < W4.heap.size := (HT.out.in_ 2 rfl rfl).2
  have z_m : W2.heap.size < W4.heap.size := (HT.out.in_ 3 rfl rfl).2
  have z_k : W1.heap.size < W4.heap.size := (HT.out.in_ 4 rfl rfl).2
  have z_to : w.heap.size + 1 + 1 < W4.heap.size := (HT.out.in_ 5 rfl rfl).2
  have z_v : w.heap.size + 1 < W4.heap.size := (HT.out.in_ 6 rfl rfl).2
  have z_from : w.heap.size < W4.heap.size := (HT.out.in_ 7 rfl rfl).2
  go_upto_region 5 with fail
  obtain ⟨T', K'⟩ := HT.out.new' #[.int .i64 mf, .slice A4 of_.length a4] 26 W4.heap.size (by first | (simp; done) | rfl)
  replace T' : St w.heap.size w ((W4.alloc (.cells #[.int .i64 mf, .slice A4 of_.length a4] 26))) [.blk W4.heap.size #[.int .i64 mf, .slice A4 of_.length a4] 26, .blk (W3.heap.size + 1 + 1) #[.int .i64 tk, .int .i64 tn] 31, .blk (W3.heap.size + 1) #[.int .i64 mt, .slice B3 ot.length b3] 26, .blk W3.heap.size #[.int .i64 mf, .slice A3 of_.length a3] 26, .blk W2.heap.size #[.int .i64 m2, .slice A2 tt.length c2] 26, .blk W1.heap.size #[.int .i64 m, .slice A1 fr.length c1] 26, .blk (w.heap.size + 1 + 1) #[.int .i64 m2, .slice B tt.length d] 26, .blk (w.heap.size + 1) #[.int .i64 v.k, .int .i64 v.n] 31, .blk w.heap.size #[.int .i64 m, .slice A fr.length c] 26] := T'
  replace K' : Keeps W4 [.blk (W3.heap.size + 1 + 1) #[.int .i64 tk, .int .i64 tn] 31, .blk (W3.heap.size + 1) #[.int .i64 mt, .slice B3 ot.length b3] 26, .blk W3.heap.size #[.int .i64 mf, .slice A3 of_.length a3] 26, .blk W2.heap.size #[.int .i64 m2, .slice A2 tt.length c2] 26, .blk W1.heap.size #[.int .i64 m, .slice A1 fr.length c1] 26, .blk (w.heap.size + 1 + 1) #[.int .i64 m2, .slice B tt.length d] 26, .blk (w.heap.size + 1) #[.int .i64 v.k, .int .i64 v.n] 31, .blk w.heap.size #[.int .i64 m, .slice A fr.length c] 26] ((W4.alloc (.cells #[.int .i64 mf, .slice A4 of_.length a4] 26))) [.blk W4.heap.size #[.int .i64 mf, .slice A4 of_.length a4] 26, .blk (W3.heap.size + 1 + 1) #[.int .i64 tk, .int .i64 tn] 31, .blk (W3.heap.size + 1) #[.int .i64 mt, .slice B3 ot.length b3] 26, .blk W3.heap.size #[.int .i64 mf, .slice A3 of_.length a3] 26, .blk W2.heap.size #[.int .i64 m2, .slice A2 tt.length c2] 26, .blk W1.heap.size #[.int .i64 m, .slice A1 fr.length c1] 26, .blk (w.heap.size + 1 + 1) #[.int .i64 m2, .slice B tt.length d] 26, .blk (w.heap.size + 1) #[.int .i64 v.k, .int .i64 v.n] 31, .blk w.heap.size #[.int .i64 m, .slice A fr.length c] 26] := K'
  replace HT := Lib.hid T'
  replace Hr := Lib.hid (Hr.out.move (by decide) K')
  replace Hq := Lib.hid (Hq.out.move (by decide) K')
  replace Hk := Lib.hid (Hk.out.move (by decide) K')
  replace Hm := Lib.hid (Hm.out.move (by decide) K')
  replace Ha3 := Lib.hid (Ha3.out.move (by decide) K')
  replace Hb3 := Lib.hid (Hb3.out.move (by decide) K')
  replace Ha4 := Lib.hid (Ha4.out.move (by decide) K')
  replace Hb4 := Lib.hid (Hb4.out.move (by decide) K')
  clear T' K'
  replace hw : w.heap.size + 1 + 1 + 1 ≤ ((W4.alloc (.cells #[.int .i64 mf, .slice A4 of_.length a4] 26))).heap.size := Nat.le_trans hw (by simp)
  obtain ⟨T', K'⟩ := HT.out.new' #[.int .i64 mt, .slice B4 ot.length b4] 26 (W4.heap.size + 1) (by first | (simp; done) | rfl)
  replace T' : St w.heap.size w (((W4.alloc (.cells #[.int .i64 mf, .slice A4 of_.length a4] 26)).alloc (.cells #[.int .i64 mt, .slice B4 ot.length b4] 26))) [.blk (W4.heap.size + 1) #[.int .i64 mt, .slice B4 ot.length b4] 26, .blk W4.heap.size #[.int .i64 mf, .slice A4 of_.length a4] 26, .blk (W3.heap.size + 1 + 1) #[.int .i64 tk, .int .i64 tn] 31, .blk (W3.heap.size + 1) #[.int .i64 mt, .slice B3 ot.length b3] 26, .blk W3.heap.size #[.int .i64 mf, .slice A3 of_.length a3] 26, .blk W2.heap.size #[.int .i64 m2, .slice A2 tt.length c2] 26, .blk W1.heap.size #[.int .i64 m, .slice A1 fr.length c1] 26, .blk (w.heap.size + 1 + 1) #[.int .i64 m2, .slice B tt.length d] 26, .blk (w.heap.size + 1) #[.int .i64 v.k, .int .i64 v.n] 31, .blk w.heap.size #[.int .i64 m, .slice A fr.length c] 26] := T'
  replace K' : Keeps ((W4.alloc (.cells #[.int .i64 mf, .slice A4 of_.length a4] 26))) [.blk W4.heap.size #[.int .i64 mf, .slice A4 of_.length a4] 26, .blk (W3.heap.size + 1 + 1) #[.int .i64 tk, .int .i64 tn] 31, .blk (W3.heap.size + 1) #[.int .i64 mt, .slice B3 ot.length b3] 26, .blk W3.heap.size #[.int .i64 mf, .slice A3 of_.length a3] 26, .blk W2.heap.size #[.int .i64 m2, .slice A2 tt.length c2] 26, .blk W1.heap.size #[.int .i64 m, .slice A1 fr.length c1] 26, .blk (w.heap.size + 1 + 1) #[.int .i64 m2, .slice B tt.length d] 26, .blk (w.heap.size + 1) #[.int .i64 v.k, .int .i64 v.n] 31, .blk w.heap.size #[.int .i64 m, .slice A fr.length c] 26] (((W4.alloc (.cells #[.int .i64 mf, .slice A4 of_.length a4] 26)).alloc (.cells #[.int .i64 mt, .slice B4 ot.length b4] 26))) [.blk (W4.heap.size + 1) #[.int .i64 mt, .slice B4 ot.length b4] 26, .blk W4.heap.size #[.int .i64 mf, .slice A4 of_.length a4] 26, .blk (W3.heap.size + 1 + 1) #[.int .i64 tk, .int .i64 tn] 31, .blk (W3.heap.size + 1) #[.int .i64 mt, .slice B3 ot.length b3] 26, .blk W3.heap.size #[.int .i64 mf, .slice A3 of_.length a3] 26, .blk W2.heap.size #[.int .i64 m2, .slice A2 tt.length c2] 26, .blk W1.heap.size #[.int .i64 m, .slice A1 fr.length c1] 26, .blk (w.heap.size + 1 + 1) #[.int .i64 m2, .slice B tt.length d] 26, .blk (w.heap.size + 1) #[.int .i64 v.k, .int .i64 v.n] 31, .blk w.heap.size #[.int .i64 m, .slice A fr.length c] 26] := K'
  replace HT := Lib.hid T'
  replace Hr := Lib.hid (Hr.out.move (by decide) K')
  replace Hq := Lib.hid (Hq.out.move (by decide) K')
  replace Hk := Lib.hid (Hk.out.move (by decide) K')
  replace Hm := Lib.hid (Hm.out.move (by decide) K')
  replace Ha3 := Lib.hid (Ha3.out.move (by decide) K')
  replace Hb3 := Lib.hid (Hb3.out.move (by decide) K')
  replace Ha4 := Lib.hid (Ha4.out.move (by decide) K')
  replace Hb4 := Lib.hid (Hb4.out.move (by decide) K')
  clear T' K'
  replace hw : w.heap.size + 1 + 1 + 1 ≤ (((W4.alloc (.cells #[.int .i64 mf, .slice A4 of_.length a4] 26)).alloc (.cells #[.int .i64 mt, .slice B4 ot.length b4] 26))).heap.size := Nat.le_trans hw (by simp)
  obtain ⟨T', K'⟩ := HT.out.new' #[.int .i64 tk, .int .i64 tn] 31 (W4.heap.size + 1 + 1) (by first | (simp; done) | rfl)
  replace T' : St w.heap.size w ((((W4.alloc (.cells #[.int .i64 mf, .slice A4 of_.length a4] 26)).alloc (.cells #[.int .i64 mt, .slice B4 ot.length b4] 26)).alloc (.cells #[.int .i64 tk, .int .i64 tn] 31))) [.blk (W4.heap.size + 1 + 1) #[.int .i64 tk, .int .i64 tn] 31, .blk (W4.heap.size + 1) #[.int .i64 mt, .slice B4 ot.length b4] 26, .blk W4.heap.size #[.int .i64 mf, .slice A4 of_.length a4] 26, .blk (W3.heap.size + 1 + 1) #[.int .i64 tk, .int .i64 tn] 31, .blk (W3.heap.size + 1) #[.int .i64 mt, .slice B3 ot.length b3] 26, .blk W3.heap.size #[.int .i64 mf, .slice A3 of_.length a3] 26, .blk W2.heap.size #[.int .i64 m2, .slice A2 tt.length c2] 26, .blk W1.heap.size #[.int .i64 m, .slice A1 fr.length c1] 26, .blk (w.heap.size + 1 + 1) #[.int .i64 m2, .slice B tt.length d] 26, .blk (w.heap.size + 1) #[.int .i64 v.k, .int .i64 v.n] 31, .blk w.heap.size #[.int .i64 m, .slice A fr.length c] 26] := T'
  replace K' : Keeps (((W4.alloc (.cells #[.int .i64 mf, .slice A4 of_.length a4] 26)).alloc (.cells #[.int .i64 mt, .slice B4 ot.length b4] 26))) [.blk (W4.heap.size + 1) #[.int .i64 mt, .slice B4 ot.length b4] 26, .blk W4.heap.size #[.int .i64 mf, .slice A4 of_.length a4] 26, .blk (W3.heap.size + 1 + 1) #[.int .i64 tk, .int .i64 tn] 31, .blk (W3.heap.size + 1) #[.int .i64 mt, .slice B3 ot.length b3] 26, .blk W3.heap.size #[.int .i64 mf, .slice A3 of_.length a3] 26, .blk W2.heap.size #[.int .i64 m2, .slice A2 tt.length c2] 26, .blk W1.heap.size #[.int .i64 m, .slice A1 fr.length c1] 26, .blk (w.heap.size + 1 + 1) #[.int .i64 m2, .slice B tt.length d] 26, .blk (w.heap.size + 1) #[.int .i64 v.k, .int .i64 v.n] 31, .blk w.heap.size #[.int .i64 m, .slice A fr.length c] 26] ((((W4.alloc (.cells #[.int .i64 mf, .slice A4 of_.length a4] 26)).alloc (.cells #[.int .i64 mt, .slice B4 ot.length b4] 26)).alloc (.cells #[.int .i64 tk, .int .i64 tn] 31))) [.blk (W4.heap.size + 1 + 1) #[.int .i64 tk, .int .i64 tn] 31, .blk (W4.heap.size + 1) #[.int .i64 mt, .slice B4 ot.length b4] 26, .blk W4.heap.size #[.int .i64 mf, .slice A4 of_.length a4] 26, .blk (W3.heap.size + 1 + 1) #[.int .i64 tk, .int .i64 tn] 31, .blk (W3.heap.size + 1) #[.int .i64 mt, .slice B3 ot.length b3] 26, .blk W3.heap.size #[.int .i64 mf, .slice A3 of_.length a3] 26, .blk W2.heap.size #[.int .i64 m2, .slice A2 tt.length c2] 26, .blk W1.heap.size #[.int .i64 m, .slice A1 fr.length c1] 26, .blk (w.heap.size + 1 + 1) #[.int .i64 m2, .slice B tt.length d] 26, .blk (w.heap.size + 1) #[.int .i64 v.k, .int .i64 v.n] 31, .blk w.heap.size #[.int .i64 m, .slice A fr.length c] 26] := K'
  replace HT := Lib.hid T'
  replace Hr := Lib.hid (Hr.out.move (by decide) K')
  replace Hq := Lib.hid (Hq.out.move (by decide) K')
  replace Hk := Lib.hid (Hk.out.move (by decide) K')
  replace Hm := Lib.hid (Hm.out.move (by decide) K')
  replace Ha3 := Lib.hid (Ha3.out.move (by decide) K')
  replace Hb3 := Lib.hid (Hb3.out.move (by decide) K')
  replace Ha4 := Lib.hid (Ha4.out.move (by decide) K')
  replace Hb4 := Lib.hid (Hb4.out.move (by decide) K')
  clear T' K'
  replace hw : w.heap.size + 1 + 1 + 1 ≤ ((((W4.alloc (.cells #[.int .i64 mf, .slice A4 of_.length a4] 26)).alloc (.cells #[.int .i64 mt, .slice B4 ot.length b4] 26)).alloc (.cells #[.int .i64 tk, .int .i64 tn] 31))).heap.size := Nat.le_trans hw (by simp)
  clear r_x q_x r_b q_b r_a q_a r_m q_m r_k q_k r_to q_to r_v q_v r_from q_from z_x z_b z_a z_m z_k z_to z_v z_from
  generalize (((W4.alloc (.cells #[.int .i64 mf, .slice A4 of_.length a4] 26)).alloc (.cells #[.int .i64 mt, .slice B4 ot.length b4] 26)).alloc (.cells #[.int .i64 tk, .int .i64 tn] 31)) = V4 at *
  obtain ⟨r_y, q_y, r_d, q_d, r_c, q_c, r_x, q_x, r_b, q_b, r_a, q_a, r_m, q_m, r_k, q_k, r_to, q_to, r_v, q_v, r_from, q_from, -⟩ := HT.out.rules
  have z_y : W4.heap.size + 1 + 1 < V4.heap.size := (HT.out.in_ 0 rfl rfl).2
  have z_d : W4.heap.size + 1 < V4.heap.size := (HT.out.in_ 1 rfl rfl).2
  have z_c : W4.heap.size < V4.heap.size := (HT.out.in_ 2 rfl rfl).2
  have z_x : W3.heap.size + 1 + 1 < V4.heap.size := (HT.out.in_ 3 rfl rfl).2
  have z_b : W3.heap.size + 1 < V4.heap.size := (HT.out.in_ 4 rfl rfl).2
  have z_a : W3.heap.size < V4.heap.size := (HT.out.in_ 5 rfl rfl).2
  have z_m : W2.heap.size < V4.heap.size := (HT.out.in_ 6 rfl rfl).2
  have z_k : W1.heap.size < V4.heap.size := (HT.out.in_ 7 rfl rfl).2
  have z_to : w.heap.size + 1 + 1 < V4.heap.size := (HT.out.in_ 8 rfl rfl).2
  have z_v : w.heap.size + 1 < V4.heap.size := (HT.out.in_ 9 rfl rfl).2
  have z_from : w.heap.size < V4.heap.size := (HT.out.in_ 10 rfl rfl).2
  go_wp2_with fail
  refine (sameHeap_eq mf _ _ _ _ _ _ of_ _ Ha3.out Ha4.out).mono ?_
  rintro e X0 ⟨rfl, hb⟩
  clear r_y q_y r_d q_d r_c q_c r_x q_x r_b q_b r_a q_a r_m q_m r_k q_k r_to q_to r_v q_v r_from q_from z_y z_d z_c z_x z_b z_a z_m z_k z_to z_v z_from
  obtain ⟨T', K'⟩ := HT.out.call hb
  replace T' : St w.heap.size w X0 [.blk (W4.heap.size + 1 + 1) #[.int .i64 tk, .int .i64 tn] 31, .blk (W4.heap.size + 1) #[.int .i64 mt, .slice B4 ot.length b4] 26, .blk W4.heap.size #[.int .i64 mf, .slice A4 of_.length a4] 26, .blk (W3.heap.size + 1 + 1) #[.int .i64 tk, .int .i64 tn] 31, .blk (W3.heap.size + 1) #[.int .i64 mt, .slice B3 ot.length b3] 26, .blk W3.heap.size #[.int .i64 mf, .slice A3 of_.length a3] 26, .blk W2.heap.size #[.int .i64 m2, .slice A2 tt.length c2] 26, .blk W1.heap.size #[.int .i64 m, .slice A1 fr.length c1] 26, .blk (w.heap.size + 1 + 1) #[.int .i64 m2, .slice B tt.length d] 26, .blk (w.heap.size + 1) #[.int .i64 v.k, .int .i64 v.n] 31, .blk w.heap.size #[.int .i64 m, .slice A fr.length c] 26] := T'
  replace K' : Keeps V4 [.blk (W4.heap.size + 1 + 1) #[.int .i64 tk, .int .i64 tn] 31, .blk (W4.heap.size + 1) #[.int .i64 mt, .slice B4 ot.length b4] 26, .blk W4.heap.size #[.int .i64 mf, .slice A4 of_.length a4] 26, .blk (W3.heap.size + 1 + 1) #[.int .i64 tk, .int .i64 tn] 31, .blk (W3.heap.size + 1) #[.int .i64 mt, .slice B3 ot.length b3] 26, .blk W3.heap.size #[.int .i64 mf, .slice A3 of_.length a3] 26, .blk W2.heap.size #[.int .i64 m2, .slice A2 tt.length c2] 26, .blk W1.heap.size #[.int .i64 m, .slice A1 fr.length c1] 26, .blk (w.heap.size + 1 + 1) #[.int .i64 m2, .slice B tt.length d] 26, .blk (w.heap.size + 1) #[.int .i64 v.k, .int .i64 v.n] 31, .blk w.heap.size #[.int .i64 m, .slice A fr.length c] 26] X0 [.blk (W4.heap.size + 1 + 1) #[.int .i64 tk, .int .i64 tn] 31, .blk (W4.heap.size + 1) #[.int .i64 mt, .slice B4 ot.length b4] 26, .blk W4.heap.size #[.int .i64 mf, .slice A4 of_.length a4] 26, .blk (W3.heap.size + 1 + 1) #[.int .i64 tk, .int .i64 tn] 31, .blk (W3.heap.size + 1) #[.int .i64 mt, .slice B3 ot.length b3] 26, .blk W3.heap.size #[.int .i64 mf, .slice A3 of_.length a3] 26, .blk W2.heap.size #[.int .i64 m2, .slice A2 tt.length c2] 26, .blk W1.heap.size #[.int .i64 m, .slice A1 fr.length c1] 26, .blk (w.heap.size + 1 + 1) #[.int .i64 m2, .slice B tt.length d] 26, .blk (w.heap.size + 1) #[.int .i64 v.k, .int .i64 v.n] 31, .blk w.heap.size #[.int .i64 m, .slice A fr.length c] 26] := K'
  replace HT := Lib.hid T'
  replace Hr := Lib.hid (Hr.out.move (by decide) K')
  replace Hq := Lib.hid (Hq.out.move (by decide) K')
  replace Hk := Lib.hid (Hk.out.move (by decide) K')
  replace Hm := Lib.hid (Hm.out.move (by decide) K')
  replace Ha3 := Lib.hid (Ha3.out.move (by decide) K')
  replace Hb3 := Lib.hid (Hb3.out.move (by decide) K')
  replace Ha4 := Lib.hid (Ha4.out.move (by decide) K')
  replace Hb4 := Lib.hid (Hb4.out.move (by decide) K')
  clear T' K'
  replace hw : w.heap.size + 1 + 1 + 1 ≤ X0.heap.size := Nat.le_trans hw hb.size
  clear hb
  obtain ⟨r_y, q_y, r_d, q_d, r_c, q_c, r_x, q_x, r_b, q_b, r_a, q_a, r_m, q_m, r_k, q_k, r_to, q_to, r_v, q_v, r_from, q_from, -⟩ := HT.out.rules
  have z_y : W4.heap.size + 1 + 1 < X0.heap.size := (HT.out.in_ 0 rfl rfl).2
  have z_d : W4.heap.size + 1 < X0.heap.size := (HT.out.in_ 1 rfl rfl).2
  have z_c : W4.heap.size < X0.heap.size := (HT.out.in_ 2 rfl rfl).2
  have z_x : W3.heap.size + 1 + 1 < X0.heap.size := (HT.out.in_ 3 rfl rfl).2
  have z_b : W3.heap.size + 1 < X0.heap.size := (HT.out.in_ 4 rfl rfl).2
  have z_a : W3.heap.size < X0.heap.size := (HT.out.in_ 5 rfl rfl).2
  have z_m : W2.heap.size < X0.heap.size := (HT.out.in_ 6 rfl rfl).2
  have z_k : W1.heap.size < X0.heap.size := (HT.out.in_ 7 rfl rfl).2
  have z_to : w.heap.size + 1 + 1 < X0.heap.size := (HT.out.in_ 8 rfl rfl).2
  have z_v : w.heap.size + 1 < X0.heap.size := (HT.out.in_ 9 rfl rfl).2
  have z_from : w.heap.size < X0.heap.size := (HT.out.in_ 10 rfl rfl).2
  go_wp2_with fail
  refine (sameHeap_eq mt _ _ _ _ _ _ ot _ Hb3.out Hb4.out).mono ?_
  rintro e X1 ⟨rfl, hb⟩
  clear r_y q_y r_d q_d r_c q_c r_x q_x r_b q_b r_a q_a r_m q_m r_k q_k r_to q_to r_v q_v r_from q_from z_y z_d z_c z_x z_b z_a z_m z_k z_to z_v z_from
  obtain ⟨T', K'⟩ := HT.out.call hb
  replace T' : St w.heap.size w X1 [.blk (W4.heap.size + 1 + 1) #[.int .i64 tk, .int .i64 tn] 31, .blk (W4.heap.size + 1) #[.int .i64 mt, .slice B4 ot.length b4] 26, .blk W4.heap.size #[.int .i64 mf, .slice A4 of_.length a4] 26, .blk (W3.heap.size + 1 + 1) #[.int .i64 tk, .int .i64 tn] 31, .blk (W3.heap.size + 1) #[.int .i64 mt, .slice B3 ot.length b3] 26, .blk W3.heap.size #[.int .i64 mf, .slice A3 of_.length a3] 26, .blk W2.heap.size #[.int .i64 m2, .slice A2 tt.length c2] 26, .blk W1.heap.size #[.int .i64 m, .slice A1 fr.length c1] 26, .blk (w.heap.size + 1 + 1) #[.int .i64 m2, .slice B tt.length d] 26, .blk (w.heap.size + 1) #[.int .i64 v.k, .int .i64 v.n] 31, .blk w.heap.size #[.int .i64 m, .slice A fr.length c] 26] := T'
  replace K' : Keeps X0 [.blk (W4.heap.size + 1 + 1) #[.int .i64 tk, .int .i64 tn] 31, .blk (W4.heap.size + 1) #[.int .i64 mt, .slice B4 ot.length b4] 26, .blk W4.heap.size #[.int .i64 mf, .slice A4 of_.length a4] 26, .blk (W3.heap.size + 1 + 1) #[.int .i64 tk, .int .i64 tn] 31, .blk (W3.heap.size + 1) #[.int .i64 mt, .slice B3 ot.length b3] 26, .blk W3.heap.size #[.int .i64 mf, .slice A3 of_.length a3] 26, .blk W2.heap.size #[.int .i64 m2, .slice A2 tt.length c2] 26, .blk W1.heap.size #[.int .i64 m, .slice A1 fr.length c1] 26, .blk (w.heap.size + 1 + 1) #[.int .i64 m2, .slice B tt.length d] 26, .blk (w.heap.size + 1) #[.int .i64 v.k, .int .i64 v.n] 31, .blk w.heap.size #[.int .i64 m, .slice A fr.length c] 26] X1 [.blk (W4.heap.size + 1 + 1) #[.int .i64 tk, .int .i64 tn] 31, .blk (W4.heap.size + 1) #[.int .i64 mt, .slice B4 ot.length b4] 26, .blk W4.heap.size #[.int .i64 mf, .slice A4 of_.length a4] 26, .blk (W3.heap.size + 1 + 1) #[.int .i64 tk, .int .i64 tn] 31, .blk (W3.heap.size + 1) #[.int .i64 mt, .slice B3 ot.length b3] 26, .blk W3.heap.size #[.int .i64 mf, .slice A3 of_.length a3] 26, .blk W2.heap.size #[.int .i64 m2, .slice A2 tt.length c2] 26, .blk W1.heap.size #[.int .i64 m, .slice A1 fr.length c1] 26, .blk (w.heap.size + 1 + 1) #[.int .i64 m2, .slice B tt.length d] 26, .blk (w.heap.size + 1) #[.int .i64 v.k, .int .i64 v.n] 31, .blk w.heap.size #[.int .i64 m, .slice A fr.length c] 26] := K'
  replace HT := Lib.hid T'
  replace Hr := Lib.hid (Hr.out.move (by decide) K')
  replace Hq := Lib.hid (Hq.out.move (by decide) K')
  replace Hk := Lib.hid (Hk.out.move (by decide) K')
  replace Hm := Lib.hid (Hm.out.move (by decide) K')
  replace Ha3 := Lib.hid (Ha3.out.move (by decide) K')
  replace Hb3 := Lib.hid (Hb3.out.move (by decide) K')
  replace Ha4 := Lib.hid (Ha4.out.move (by decide) K')
  replace Hb4 := Lib.hid (Hb4.out.move (by decide) K')
  clear T' K'
  replace hw : w.heap.size + 1 + 1 + 1 ≤ X1.heap.size := Nat.le_trans hw hb.size
  clear hb
  obtain ⟨r_y, q_y, r_d, q_d, r_c, q_c, r_x, q_x, r_b, q_b, r_a, q_a, r_m, q_m, r_k, q_k, r_to, q_to, r_v, q_v, r_from, q_from, -⟩ := HT.out.rules
  have z_y : W4.heap.size + 1 + 1 < X1.heap.size := (HT.out.in_ 0 rfl rfl).2
  have z_d : W4.heap.size + 1 < X1.heap.size := (HT.out.in_ 1 rfl rfl).2
  have z_c : W4.heap.size < X1.heap.size := (HT.out.in_ 2 rfl rfl).2
  have z_x : W3.heap.size + 1 + 1 < X1.heap.size := (HT.out.in_ 3 rfl rfl).2
  have z_b : W3.heap.size + 1 < X1.heap.size := (HT.out.in_ 4 rfl rfl).2
  have z_a : W3.heap.size < X1.heap.size := (HT.out.in_ 5 rfl rfl).2
  have z_m : W2.heap.size < X1.heap.size := (HT.out.in_ 6 rfl rfl).2
  have z_k : W1.heap.size < X1.heap.size := (HT.out.in_ 7 rfl rfl).2
  have z_to : w.heap.size + 1 + 1 < X1.heap.size := (HT.out.in_ 8 rfl rfl).2
  have z_v : w.heap.size + 1 < X1.heap.size := (HT.out.in_ 9 rfl rfl).2
  have z_from : w.heap.size < X1.heap.size := (HT.out.in_ 10 rfl rfl).2
  go_wp2_with fail
  refine (sameHeap_eq m _ _ _ _ _ _ fr _ Hk.out Hr.out).mono ?_
  rintro e X2 ⟨rfl, hb⟩
  clear r_y q_y r_d q_d r_c q_c r_x q_x r_b q_b r_a q_a r_m q_m r_k q_k r_to q_to r_v q_v r_from q_from z_y z_d z_c z_x z_b z_a z_m z_k z_to z_v z_from
  obtain ⟨T', K'⟩ := HT.out.call hb
  replace T' : St w.heap.size w X2 [.blk (W4.heap.size + 1 + 1) #[.int .i64 tk, .int .i64 tn] 31, .blk (W4.heap.size + 1) #[.int .i64 mt, .slice B4 ot.length b4] 26, .blk W4.heap.size #[.int .i64 mf, .slice A4 of_.length a4] 26, .blk (W3.heap.size + 1 + 1) #[.int .i64 tk, .int .i64 tn] 31, .blk (W3.heap.size + 1) #[.int .i64 mt, .slice B3 ot.length b3] 26, .blk W3.heap.size #[.int .i64 mf, .slice A3 of_.length a3] 26, .blk W2.heap.size #[.int .i64 m2, .slice A2 tt.length c2] 26, .blk W1.heap.size #[.int .i64 m, .slice A1 fr.length c1] 26, .blk (w.heap.size + 1 + 1) #[.int .i64 m2, .slice B tt.length d] 26, .blk (w.heap.size + 1) #[.int .i64 v.k, .int .i64 v.n] 31, .blk w.heap.size #[.int .i64 m, .slice A fr.length c] 26] := T'
  replace K' : Keeps X1 [.blk (W4.heap.size + 1 + 1) #[.int .i64 tk, .int .i64 tn] 31, .blk (W4.heap.size + 1) #[.int .i64 mt, .slice B4 ot.length b4] 26, .blk W4.heap.size #[.int .i64 mf, .slice A4 of_.length a4] 26, .blk (W3.heap.size + 1 + 1) #[.int .i64 tk, .int .i64 tn] 31, .blk (W3.heap.size + 1) #[.int .i64 mt, .slice B3 ot.length b3] 26, .blk W3.heap.size #[.int .i64 mf, .slice A3 of_.length a3] 26, .blk W2.heap.size #[.int .i64 m2, .slice A2 tt.length c2] 26, .blk W1.heap.size #[.int .i64 m, .slice A1 fr.length c1] 26, .blk (w.heap.size + 1 + 1) #[.int .i64 m2, .slice B tt.length d] 26, .blk (w.heap.size + 1) #[.int .i64 v.k, .int .i64 v.n] 31, .blk w.heap.size #[.int .i64 m, .slice A fr.length c] 26] X2 [.blk (W4.heap.size + 1 + 1) #[.int .i64 tk, .int .i64 tn] 31, .blk (W4.heap.size + 1) #[.int .i64 mt, .slice B4 ot.length b4] 26, .blk W4.heap.size #[.int .i64 mf, .slice A4 of_.length a4] 26, .blk (W3.heap.size + 1 + 1) #[.int .i64 tk, .int .i64 tn] 31, .blk (W3.heap.size + 1) #[.int .i64 mt, .slice B3 ot.length b3] 26, .blk W3.heap.size #[.int .i64 mf, .slice A3 of_.length a3] 26, .blk W2.heap.size #[.int .i64 m2, .slice A2 tt.length c2] 26, .blk W1.heap.size #[.int .i64 m, .slice A1 fr.length c1] 26, .blk (w.heap.size + 1 + 1) #[.int .i64 m2, .slice B tt.length d] 26, .blk (w.heap.size + 1) #[.int .i64 v.k, .int .i64 v.n] 31, .blk w.heap.size #[.int .i64 m, .slice A fr.length c] 26] := K'
  replace HT := Lib.hid T'
  replace Hr := Lib.hid (Hr.out.move (by decide) K')
  replace Hq := Lib.hid (Hq.out.move (by decide) K')
  replace Hk := Lib.hid (Hk.out.move (by decide) K')
  replace Hm := Lib.hid (Hm.out.move (by decide) K')
  replace Ha3 := Lib.hid (Ha3.out.move (by decide) K')
  replace Hb3 := Lib.hid (Hb3.out.move (by decide) K')
  replace Ha4 := Lib.hid (Ha4.out.move (by decide) K')
  replace Hb4 := Lib.hid (Hb4.out.move (by decide) K')
  clear T' K'
  replace hw : w.heap.size + 1 + 1 + 1 ≤ X2.heap.size := Nat.le_trans hw hb.size
  clear hb
  obtain ⟨r_y, q_y, r_d, q_d, r_c, q_c, r_x, q_x, r_b, q_b, r_a, q_a, r_m, q_m, r_k, q_k, r_to, q_to, r_v, q_v, r_from, q_from, -⟩ := HT.out.rules
  have z_y : W4.heap.size + 1 + 1 < X2.heap.size := (HT.out.in_ 0 rfl rfl).2
  have z_d : W4.heap.size + 1 < X2.heap.size := (HT.out.in_ 1 rfl rfl).2
  have z_c : W4.heap.size < X2.heap.size := (HT.out.in_ 2 rfl rfl).2
  have z_x : W3.heap.size + 1 + 1 < X2.heap.size := (HT.out.in_ 3 rfl rfl).2
  have z_b : W3.heap.size + 1 < X2.heap.size := (HT.out.in_ 4 rfl rfl).2
  have z_a : W3.heap.size < X2.heap.size := (HT.out.in_ 5 rfl rfl).2
  have z_m : W2.heap.size < X2.heap.size := (HT.out.in_ 6 rfl rfl).2
  have z_k : W1.heap.size < X2.heap.size := (HT.out.in_ 7 rfl rfl).2
  have z_to : w.heap.size + 1 + 1 < X2.heap.size := (HT.out.in_ 8 rfl rfl).2
  have z_v : w.heap.size + 1 < X2.heap.size := (HT.out.in_ 9 rfl rfl).2
  have z_from : w.heap.size < X2.heap.size := (HT.out.in_ 10 rfl rfl).2
  go_wp2_with fail
  refine (sameHeap_eq m2 _ _ _ _ _ _ tt _ Hm.out Hq.out).mono ?_
  rintro e X3 ⟨rfl, hb⟩
  clear r_y q_y r_d q_d r_c q_c r_x q_x r_b q_b r_a q_a r_m q_m r_k q_k r_to q_to r_v q_v r_from q_from z_y z_d z_c z_x z_b z_a z_m z_k z_to z_v z_from
  obtain ⟨T', K'⟩ := HT.out.call hb
  replace T' : St w.heap.size w X3 [.blk (W4.heap.size + 1 + 1) #[.int .i64 tk, .int .i64 tn] 31, .blk (W4.heap.size + 1) #[.int .i64 mt, .slice B4 ot.length b4] 26, .blk W4.heap.size #[.int .i64 mf, .slice A4 of_.length a4] 26, .blk (W3.heap.size + 1 + 1) #[.int .i64 tk, .int .i64 tn] 31, .blk (W3.heap.size + 1) #[.int .i64 mt, .slice B3 ot.length b3] 26, .blk W3.heap.size #[.int .i64 mf, .slice A3 of_.length a3] 26, .blk W2.heap.size #[.int .i64 m2, .slice A2 tt.length c2] 26, .blk W1.heap.size #[.int .i64 m, .slice A1 fr.length c1] 26, .blk (w.heap.size + 1 + 1) #[.int .i64 m2, .slice B tt.length d] 26, .blk (w.heap.size + 1) #[.int .i64 v.k, .int .i64 v.n] 31, .blk w.heap.size #[.int .i64 m, .slice A fr.length c] 26] := T'
  replace K' : Keeps X2 [.blk (W4.heap.size + 1 + 1) #[.int .i64 tk, .int .i64 tn] 31, .blk (W4.heap.size + 1) #[.int .i64 mt, .slice B4 ot.length b4] 26, .blk W4.heap.size #[.int .i64 mf, .slice A4 of_.length a4] 26, .blk (W3.heap.size + 1 + 1) #[.int .i64 tk, .int .i64 tn] 31, .blk (W3.heap.size + 1) #[.int .i64 mt, .slice B3 ot.length b3] 26, .blk W3.heap.size #[.int .i64 mf, .slice A3 of_.length a3] 26, .blk W2.heap.size #[.int .i64 m2, .slice A2 tt.length c2] 26, .blk W1.heap.size #[.int .i64 m, .slice A1 fr.length c1] 26, .blk (w.heap.size + 1 + 1) #[.int .i64 m2, .slice B tt.length d] 26, .blk (w.heap.size + 1) #[.int .i64 v.k, .int .i64 v.n] 31, .blk w.heap.size #[.int .i64 m, .slice A fr.length c] 26] X3 [.blk (W4.heap.size + 1 + 1) #[.int .i64 tk, .int .i64 tn] 31, .blk (W4.heap.size + 1) #[.int .i64 mt, .slice B4 ot.length b4] 26, .blk W4.heap.size #[.int .i64 mf, .slice A4 of_.length a4] 26, .blk (W3.heap.size + 1 + 1) #[.int .i64 tk, .int .i64 tn] 31, .blk (W3.heap.size + 1) #[.int .i64 mt, .slice B3 ot.length b3] 26, .blk W3.heap.size #[.int .i64 mf, .slice A3 of_.length a3] 26, .blk W2.heap.size #[.int .i64 m2, .slice A2 tt.length c2] 26, .blk W1.heap.size #[.int .i64 m, .slice A1 fr.length c1] 26, .blk (w.heap.size + 1 + 1) #[.int .i64 m2, .slice B tt.length d] 26, .blk (w.heap.size + 1) #[.int .i64 v.k, .int .i64 v.n] 31, .blk w.heap.size #[.int .i64 m, .slice A fr.length c] 26] := K'
  replace HT := Lib.hid T'
  replace Hr := Lib.hid (Hr.out.move (by decide) K')
  replace Hq := Lib.hid (Hq.out.move (by decide) K')
  replace Hk := Lib.hid (Hk.out.move (by decide) K')
  replace Hm := Lib.hid (Hm.out.move (by decide) K')
  replace Ha3 := Lib.hid (Ha3.out.move (by decide) K')
  replace Hb3 := Lib.hid (Hb3.out.move (by decide) K')
  replace Ha4 := Lib.hid (Ha4.out.move (by decide) K')
  replace Hb4 := Lib.hid (Hb4.out.move (by decide) K')
  clear T' K'
  replace hw : w.heap.size + 1 + 1 + 1 ≤ X3.heap.size := Nat.le_trans hw hb.size
  clear hb
  obtain ⟨r_y, q_y, r_d, q_d, r_c, q_c, r_x, q_x, r_b, q_b, r_a, q_a, r_m, q_m, r_k, q_k, r_to, q_to, r_v, q_v, r_from, q_from, -⟩ := HT.out.rules
  have z_y : W4.heap.size + 1 + 1 < X3.heap.size := (HT.out.in_ 0 rfl rfl).2
  have z_d : W4.heap.size + 1 < X3.heap.size := (HT.out.in_ 1 rfl rfl).2
  have z_c : W4.heap.size < X3.heap.size := (HT.out.in_ 2 rfl rfl).2
  have z_x : W3.heap.size + 1 + 1 < X3.heap.size := (HT.out.in_ 3 rfl rfl).2
  have z_b : W3.heap.size + 1 < X3.heap.size := (HT.out.in_ 4 rfl rfl).2
  have z_a : W3.heap.size < X3.heap.size := (HT.out.in_ 5 rfl rfl).2
  have z_m : W2.heap.size < X3.heap.size := (HT.out.in_ 6 rfl rfl).2
  have z_k : W1.heap.size < X3.heap.size := (HT.out.in_ 7 rfl rfl).2
  have z_to : w.heap.size + 1 + 1 < X3.heap.size := (HT.out.in_ 8 rfl rfl).2
  have z_v : w.heap.size + 1 < X3.heap.size := (HT.out.in_ 9 rfl rfl).2
  have z_from : w.heap.size < X3.heap.size := (HT.out.in_ 10 rfl rfl).2
  go_wp2_with fail
  go_ret
  exact ⟨rfl, HT.out.below⟩

theorem lifted (os : Os) (started : os.Started) (H : Type) (enc : TypeId × Value → H) :
    ReturnsInHanded {} Try.checked os 5 .any (Rows.heapTransfersSpec.pre6 enc Try.prog Try.f5 Rows.heapTransfersRow.domain false) (Rows.heapTransfersSpec.post enc Try.prog Try.f5 false true false false) := by
  refine returnsInHanded_of_change_sized (C := Try.checked) own started (by kernel_rfl) Try.func5
    (ChangeSpec.witness6 (enc := enc) (C := Try.checked) false ⟨#[], #[.agg #[.int .i64 0, .slice none 0 0], .agg #[.int .i64 0, .int .i64 0], .agg #[.int .i64 0, .slice none 0 0], .bool false], []⟩ 8 (by kernel_rfl) (by kernel_rfl) (by kernel_rfl) (by kernel_rfl)) ?_
  intro W base args ds gs before hval0 hW _ hsz0 _
  have hval : ∀ (j : Nat) t v, Try.f5.params[j]? = some t → args[j]? = some v → Value.okWide Try.prog W .any base t v := hval0
  have hsz : (DataW.weightsEach Try.prog (Try.f5.params.toList ++ Rows.heapTransfersSpec.plain.varTypes Try.prog) (ds ++ gs)).all (· ≤ reachBytes) = true := hsz0
  have hW' := hW
  obtain ⟨p, q, hA0, hV, rfl, hfz, hnd⟩ := hW
  have hA : DataW.TrodAll enc Try.prog W 0 (fun _ => true) true Try.f5.params.toList args.toList ds p := hA0
  rw [Try.params5] at hA hval hsz
  obtain ⟨v0, vs0, d0, ds0, p0, q0, hargs, rfl, rfl, h0, r0⟩ := trodAll_cons hA
  obtain ⟨v1, vs1, d1, ds1, p1, q1, rfl, rfl, rfl, h1, r1⟩ := trodAll_cons r0
  obtain ⟨v2, vs2, d2, ds2, p2, q2, rfl, rfl, rfl, h2, r2⟩ := trodAll_cons r1
  obtain ⟨v3, vs3, d3, ds3, p3, q3, rfl, rfl, rfl, h3, r3⟩ := trodAll_cons r2
  obtain ⟨rfl, rfl, rfl⟩ := trodAll_nil r3
  obtain rfl : args = #[v0, v1, v2, v3] := by cases args; simp_all
  obtain ⟨rfl, rfl⟩ := trodVars_none hV
  obtain ⟨m0, x0, A0, c0, rfl, y0⟩ := arg_hp h0 (hval 0 26 v0 rfl rfl) (sized_at hsz (j := 0) rfl rfl)
  obtain ⟨x1, rfl⟩ := arg_v h1 (hval 1 31 v1 rfl rfl) (sized_at hsz (j := 1) rfl rfl)
  obtain ⟨m2, x2, A2, c2, rfl, y2⟩ := arg_hp h2 (hval 2 26 v2 rfl rfl) (sized_at hsz (j := 2) rfl rfl)
  obtain ⟨a3, rfl, -, -⟩ := open_bool Try.underlying4 (hval 3 4 v3 rfl rfl) h3
  clear hA0 hval0 hsz0
  refine (walk W m0 x0 A0 c0 y0 x1 m2 x2 A2 c2 y2 a3).mono fun e W' ⟨he, hb⟩ => ?_
  subst he
  exact ⟨_, rfl, law_post (tb := 4) laidOut Try.underlying4 (by kernel_rfl) (by rw [Try.params5]; exact all_types (by kernel_rfl)) rfl hW' rfl hb⟩

theorem closed : joinedFacts Try.prog 5 Try.f5 Rows.heapTransfersSpec Rows.heapTransfersRow = true :=
  facts_of (by kernel_rfl) laidOut fact_rowed (by kernel_rfl) (by kernel_rfl) (by kernel_rfl) fact_stops (by kernel_rfl) fact_knobs (by kernel_rfl) (by kernel_rfl) (by kernel_rfl) (by kernel_rfl) (by kernel_rfl) (by kernel_rfl) (by kernel_rfl) (by kernel_rfl) (by kernel_rfl) (by kernel_rfl) (by kernel_rfl) (by kernel_rfl) (by kernel_rfl) (by kernel_rfl) (by kernel_rfl) fact_heard fact_may (by rw [fact_lifts]; rfl) fact_make ⟨rfl, rfl⟩ (by kernel_rfl) (by kernel_rfl) (by kernel_rfl)
theorem over : Rows.heapTransfersRow.holds Try.pinned (OpenSpec.ofChange Rows.heapTransfersSpec) :=
  OpenClaim.holds_of_wide 5 Try.f5 rfl rfl rfl rfl rfl rfl rfl ⟨rfl, rfl, rfl, rfl, rfl⟩ rfl rfl rfl rfl rfl (by kernel_rfl) Try.func5 closed
    (of_decide_eq_true (by kernel_rfl)) (by unfold Func.isWrapper; first | (rw [if_pos (by decide +kernel)]; kernel_rfl) | (rw [if_neg (by decide +kernel)]; exact ⟨rfl, rfl⟩))
    (fun os started H enc _ => lifted os started H enc)
/-- THE STATEMENT. -/
theorem proved : Rows.HeapTransfersSaid := over
#print axioms proved
end Go.Proofs.Ytfafnjkinolkmaa.lawHeapTransfers
