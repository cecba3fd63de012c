/- THE STATEMENT 'HeapCollects': for every input the call returns true, and each argument reads behind it as it did: proved out of the walks. No condition beside the row's own. -/
import Derived.Test.YtfafnjkinolkmaaCollect
import Derived.Test.YtfafnjkinolkmaaCollectedOf
import Derived.Test.YtfafnjkinolkmaaHeapCopy
import Derived.Test.YtfafnjkinolkmaaSame
import Derived.Test.YtfafnjkinolkmaaAppAny
import Derived.Test.YtfafnjkinolkmaaArgs
import Derived.Test.YtfafnjkinolkmaaFacts
set_option maxRecDepth 100000
namespace Go.Proofs.Ytfafnjkinolkmaa.lawHeapCollects
open Go.ChangeShapes Go.WideShapes Go.ChangeAt Go.RowKit
set_option linter.unusedVariables false

theorem vcs_cat_len (l : List V) : (cat (vcs l)).length = l.length * 2 := by
  induction l with
  | nil => rfl
  | cons x l ih => simp [cat, vcs] at *; omega
theorem vcs_one (l : List V) : ∀ u ∈ cat (vcs l), u.oneCell' = true := fun u hu => by
  obtain ⟨cs, hc, h⟩ := List.mem_flatten.1 hu
  obtain ⟨x, _, rfl⟩ := List.mem_map.1 hc
  simp at h
  rcases h with rfl | rfl <;> rfl
theorem rdV_cells {w : World} {S : Nat → Prop} {A : Option Addr} {n c : Nat} {xs : List V} (h : RdSl vE w S (.slice A n c) xs) : ∀ ad, A = some ad → ∀ (j : Nat) (u : Value), (cat (vcs xs))[j]? = some u → w.cell? (ad.add j) = some u := fun ad hA j u hu => by
  obtain ⟨css, hH, hc⟩ := h.held
  obtain rfl := held_vcs hH
  exact hc ad hA j u hu
theorem rdV_none {w : World} {S : Nat → Prop} {A : Option Addr} {n c : Nat} {xs : List V} (h : RdSl vE w S (.slice A n c) xs) (hA : A = none) : n = 0 := by
  obtain ⟨A', c', hv, h1, _, _, h4⟩ := h
  cases hv
  cases xs with
  | nil => rfl
  | cons x xs =>
    obtain ⟨b, o, hb, _⟩ := h4 (by simp)
    rw [hA] at hb
    cases hb
theorem rd_ownV {w : World} {base : Nat} {A : Option Addr} {c : Nat} {xs : List V} (h : w.ownsRow base 31 2 (.slice A xs.length c) xs.length (cat (vcs xs))) (hs : xs.length * 16 ≤ 140737488355328) : RdSl vE w (fun b => base ≤ b) (.slice A xs.length c) xs :=
  (OwnSl.rd (E := vE) (S := fun _ => False) ⟨vcs xs, vcs_held xs, h, hs⟩).keep (by decide) (fun _ _ h => ⟨h.elim (fun h => h.elim) id, rfl⟩)
set_option maxRecDepth 100000 in
set_option maxHeartbeats 4000000 in
theorem walk (w : World) (m : Int) (os : List Ob) (A : Option Addr) (c : Nat) (hr : RdSl obE w (fun _ => True) (.slice A os.length c) os) (rs : List V) (R : Option Addr) (d : Nat) (hq : RdSl vE w (fun _ => True) (.slice R rs.length d) rs) :
    Calls Try.prog 8 #[.agg #[.int .i64 m, .slice A os.length c], .slice R rs.length d] w fun e w' => e = .returned (.bool true) ∧ Below w.heap.size w w' := by
  obtain ⟨iv, hiv, hv0, hv1, hv2⟩ := info_parts infoV
  obtain ⟨-, q1, q2, q3⟩ := hq.lims
  have q4 : rs.length * 16 ≤ 140737488355328 := q3
  have Hr := Lib.hid hr
  have Hq := Lib.hid hq
  clear hr hq q3
  have G1 := Lib.hid (fun W S T A R c d (hr : RdSl obE W S (.slice A os.length c) os) (hq : RdSl vE W T (.slice R rs.length d) rs) => collect_any m S T A R c d os rs W hr hq)
  have G2 := Lib.hid (fun W S T A R c d (hr : RdSl obE W S (.slice A os.length c) os) (hq : RdSl vE W T (.slice R rs.length d) rs) => collectedOf_any m S T A R c d os rs W hr hq)
  unfold CollD at G1 G2
  generalize collE ⟨m, os⟩ rs = te at *
  generalize collH ⟨m, os⟩ rs (reachL os rs) = th at *
  generalize collV ⟨m, os⟩ rs (reachL os rs) = tv at *
  obtain ⟨mh, oh⟩ := th
  try dsimp only at G1 G2
  have b1 : (te == te) = true := by simp
  have T0 : St w.heap.size w ((w.alloc (.cells #[.int .i64 m, .slice A os.length c] 26))) [.blk w.heap.size #[.int .i64 m, .slice A os.length c] 26] := ((St.start w (Nat.le_refl _)).new' #[.int .i64 m, .slice A os.length c] 26 (w.heap.size) (by simp)).1
  have HT := Lib.hid T0
  have hz : w.heap.size + 1 ≤ (w.alloc (.cells #[.int .i64 m, .slice A os.length c] 26)).heap.size := by simp
  clear T0
  replace Hr : Hid (RdSl obE ((w.alloc (.cells #[.int .i64 m, .slice A os.length c] 26))) (Fr 0 [.blk w.heap.size #[.int .i64 m, .slice A os.length c] 26]) (.slice A os.length c) os) := Lib.hid (Hr.out.pool (by decide) HT.out)
  replace Hq : Hid (RdSl vE ((w.alloc (.cells #[.int .i64 m, .slice A os.length c] 26))) (Fr 0 [.blk w.heap.size #[.int .i64 m, .slice A os.length c] 26]) (.slice R rs.length d) rs) := Lib.hid (Hq.out.pool (by decide) HT.out)
  go_enter Try.func8, Try.ntmps8
  go_upto_region 1 with fail
  generalize (w.alloc (.cells #[.int .i64 m, .slice A os.length c] 26)) = W1 at *
  obtain ⟨r_h, q_h, -⟩ := HT.out.rules
  have z_h : w.heap.size < W1.heap.size := (HT.out.in_ 0 rfl rfl).2
  go_wp2_with fail
  refine (heapCopy_any m _ A c os _ Hr.out).mono ?_
  rintro en W2 ⟨v1, vs1, rfl, hsep, hs, hb⟩
  obtain ⟨A1, c1, rfl⟩ := own_form hsep.row
  have hrd := hsep.rd hs
  clear hsep hs
  clear r_h q_h z_h
  have Hfresh := Lib.hid (HT.out)
  have hzo : w.heap.size ≤ W1.heap.size := by omega
  obtain ⟨T', K'⟩ := HT.out.call hb
  replace T' : St w.heap.size w W2 [.blk w.heap.size #[.int .i64 m, .slice A os.length c] 26] := T'
  replace K' : Keeps W1 [.blk w.heap.size #[.int .i64 m, .slice A os.length c] 26] W2 [.blk w.heap.size #[.int .i64 m, .slice A os.length c] 26] := K'
  replace HT := Lib.hid T'
  replace Hr : Hid (RdSl obE W2 (Fr 0 [.blk w.heap.size #[.int .i64 m, .slice A os.length c] 26]) (.slice A os.length c) os) := Lib.hid (Hr.out.move (by decide) K')
  replace Hq : Hid (RdSl vE W2 (Fr 0 [.blk w.heap.size #[.int .i64 m, .slice A os.length c] 26]) (.slice R rs.length d) rs) := Lib.hid (Hq.out.move (by decide) K')
  clear T' K'
  replace hz : w.heap.size + 1 ≤ W2.heap.size := Nat.le_trans hz hb.size
  clear hb
  have Hk : Hid (RdSl obE W2 (Fr w.heap.size [.blk w.heap.size #[.int .i64 m, .slice A os.length c] 26]) (.slice A1 os.length c1) os) := Lib.hid (hrd.fresh (by first | decide | (show 0 < 1; omega)) Hfresh.out hzo)
  clear hrd
  clear Hfresh hzo
  obtain ⟨r_h, q_h, -⟩ := HT.out.rules
  have z_h : w.heap.size < W2.heap.size := (HT.out.in_ 0 rfl rfl).2
  go_upto_region 2 with fail
  obtain ⟨T', K'⟩ := HT.out.new' #[.int .i64 m, .slice A1 os.length c1] 26 W2.heap.size (by first | (simp; done) | rfl)
  replace T' : St w.heap.size w ((W2.alloc (.cells #[.int .i64 m, .slice A1 os.length c1] 26))) [.blk W2.heap.size #[.int .i64 m, .slice A1 os.length c1] 26, .blk w.heap.size #[.int .i64 m, .slice A os.length c] 26] := T'
  replace K' : Keeps W2 [.blk w.heap.size #[.int .i64 m, .slice A os.length c] 26] ((W2.alloc (.cells #[.int .i64 m, .slice A1 os.length c1] 26))) [.blk W2.heap.size #[.int .i64 m, .slice A1 os.length c1] 26, .blk w.heap.size #[.int .i64 m, .slice A os.length c] 26] := K'
  replace HT := Lib.hid T'
  replace Hr : Hid (RdSl obE ((W2.alloc (.cells #[.int .i64 m, .slice A1 os.length c1] 26))) (Fr 0 [.blk W2.heap.size #[.int .i64 m, .slice A1 os.length c1] 26, .blk w.heap.size #[.int .i64 m, .slice A os.length c] 26]) (.slice A os.length c) os) := Lib.hid (Hr.out.move (by decide) K')
  replace Hq : Hid (RdSl vE ((W2.alloc (.cells #[.int .i64 m, .slice A1 os.length c1] 26))) (Fr 0 [.blk W2.heap.size #[.int .i64 m, .slice A1 os.length c1] 26, .blk w.heap.size #[.int .i64 m, .slice A os.length c] 26]) (.slice R rs.length d) rs) := Lib.hid (Hq.out.move (by decide) K')
  replace Hk : Hid (RdSl obE ((W2.alloc (.cells #[.int .i64 m, .slice A1 os.length c1] 26))) (Fr w.heap.size [.blk W2.heap.size #[.int .i64 m, .slice A1 os.length c1] 26, .blk w.heap.size #[.int .i64 m, .slice A os.length c] 26]) (.slice A1 os.length c1) os) := Lib.hid (Hk.out.move (by decide) K')
  clear T' K'
  replace hz : w.heap.size + 1 ≤ ((W2.alloc (.cells #[.int .i64 m, .slice A1 os.length c1] 26))).heap.size := Nat.le_trans hz (by simp)
  clear r_h q_h z_h
  generalize (W2.alloc (.cells #[.int .i64 m, .slice A1 os.length c1] 26)) = W3 at *
  obtain ⟨r_k, q_k, -⟩ := HT.out.rules
  have z_k : W2.heap.size < W3.heap.size := (HT.out.in_ 0 rfl rfl).2
  refine wp_region_tree (.still [0, 1] (.alt (.loud 2 [0] (.alt (.loud 3 [] (.still [4, 5, 6, 7] (.loud 8 [0, 1, 4, 5, 6, 7] (.loud 9 [6, 7] (.still [10, 11] .done))))) (.loud 8 [0, 1] (.loud 3 [] (.still [4, 5, 6, 7] (.loud 9 [6, 7] (.still [10, 11] .done))))))) (.loud 8 [0, 1] (.loud 2 [0] (.loud 3 [] (.still [4, 5, 6, 7] (.loud 9 [6, 7] (.still [10, 11] .done)))))))) (fun a9 b9 w9 => ∃ (ba : Nat) (A2 B2 : Option Addr) (c2 d2 : Nat), St w.heap.size w w9 [.blk ba #[.int .i64 mh, .slice A2 oh.length c2] 26, .blk W2.heap.size #[.int .i64 m, .slice A1 os.length c1] 26, .blk w.heap.size #[.int .i64 m, .slice A os.length c] 26] ∧ RdSl obE w9 (Fr 0 [.blk ba #[.int .i64 mh, .slice A2 oh.length c2] 26, .blk W2.heap.size #[.int .i64 m, .slice A1 os.length c1] 26, .blk w.heap.size #[.int .i64 m, .slice A os.length c] 26]) (.slice A os.length c) os ∧ RdSl vE w9 (Fr 0 [.blk ba #[.int .i64 mh, .slice A2 oh.length c2] 26, .blk W2.heap.size #[.int .i64 m, .slice A1 os.length c1] 26, .blk w.heap.size #[.int .i64 m, .slice A os.length c] 26]) (.slice R rs.length d) rs ∧ RdSl obE w9 (Fr w.heap.size [.blk ba #[.int .i64 mh, .slice A2 oh.length c2] 26, .blk W2.heap.size #[.int .i64 m, .slice A1 os.length c1] 26, .blk w.heap.size #[.int .i64 m, .slice A os.length c] 26]) (.slice A1 os.length c1) os ∧ RdSl obE w9 (Fr w.heap.size [.blk ba #[.int .i64 mh, .slice A2 oh.length c2] 26, .blk W2.heap.size #[.int .i64 m, .slice A1 os.length c1] 26, .blk w.heap.size #[.int .i64 m, .slice A os.length c] 26]) (.slice A2 oh.length c2) oh ∧ RdSl vE w9 (Fr w.heap.size [.blk ba #[.int .i64 mh, .slice A2 oh.length c2] 26, .blk W2.heap.size #[.int .i64 m, .slice A1 os.length c1] 26, .blk w.heap.size #[.int .i64 m, .slice A os.length c] 26]) (.slice B2 tv.length d2) tv ∧ w.heap.size + 1 ≤ w9.heap.size ∧ ∃ (g15 : Value) (g16 : Value) (g17 : Value) (g18 : Value) (g14 : Value) (g19 : Value) (g20 : Value) (g21 : Value), b9 = (((((((((((a9.put (some 15) g15).put (some 16) g16).put (some 17) g17).put (some 18) g18).put (some 14) g14).put (some 19) g19).put (some 20) g20).put (some 21) g21).put (some 6) (.pointer (some ⟨ba, 0, none⟩))).put (some 7) (.slice B2 tv.length d2)).put (some 8) (.int .i64 te))) (by kernel_rfl) (by kernel_rfl) ?_ ?_
  focus
    obtain ⟨T', K'⟩ := HT.out.drew'
    replace T' : St w.heap.size w W3.drew [.blk W2.heap.size #[.int .i64 m, .slice A1 os.length c1] 26, .blk w.heap.size #[.int .i64 m, .slice A os.length c] 26] := T'
    replace K' : Keeps W3 [.blk W2.heap.size #[.int .i64 m, .slice A1 os.length c1] 26, .blk w.heap.size #[.int .i64 m, .slice A os.length c] 26] W3.drew [.blk W2.heap.size #[.int .i64 m, .slice A1 os.length c1] 26, .blk w.heap.size #[.int .i64 m, .slice A os.length c] 26] := K'
    replace HT := Lib.hid T'
    replace Hr : Hid (RdSl obE W3.drew (Fr 0 [.blk W2.heap.size #[.int .i64 m, .slice A1 os.length c1] 26, .blk w.heap.size #[.int .i64 m, .slice A os.length c] 26]) (.slice A os.length c) os) := Lib.hid (Hr.out.move (by decide) K')
    replace Hq : Hid (RdSl vE W3.drew (Fr 0 [.blk W2.heap.size #[.int .i64 m, .slice A1 os.length c1] 26, .blk w.heap.size #[.int .i64 m, .slice A os.length c] 26]) (.slice R rs.length d) rs) := Lib.hid (Hq.out.move (by decide) K')
    replace Hk : Hid (RdSl obE W3.drew (Fr w.heap.size [.blk W2.heap.size #[.int .i64 m, .slice A1 os.length c1] 26, .blk w.heap.size #[.int .i64 m, .slice A os.length c] 26]) (.slice A1 os.length c1) os) := Lib.hid (Hk.out.move (by decide) K')
    clear T' K'
    replace hz : w.heap.size + 1 ≤ W3.drew.heap.size := hz
    clear r_k q_k z_k
    generalize W3.drew = W5 at *
    obtain ⟨r_k, q_k, -⟩ := HT.out.rules
    have z_k : W2.heap.size < W5.heap.size := (HT.out.in_ 0 rfl rfl).2
    clear r_k q_k z_k
    obtain ⟨r_k, q_k, -⟩ := HT.out.rules
    have z_k : W2.heap.size < W5.heap.size := (HT.out.in_ 0 rfl rfl).2
    refine tr_still ?_
    simp only [pick, List.getElem?_toArray, List.getElem?_cons_succ, List.getElem?_cons_zero]
    repeat still_step
    refine wpStill_nil ?_
    refine tr_alt ?_ ?_
    · refine tr_loud ?_
      simp only [pick, List.getElem?_toArray, List.getElem?_cons_succ, List.getElem?_cons_zero]
      refine wpList_append_any _ rfl (.const (.slice none 0 0)) (.tmp 16) _ rfl W5.heap.size 31 iv _ 2 16 Try.underlying27 hiv hv0 hv1 hv2 rfl (by omega) (.slice none 0 0) 0 [] rfl ⟨by simp, .inl ⟨rfl, rfl⟩⟩ R rs.length d (cat (vcs rs)) rfl (by rw [vcs_cat_len]) (rdV_cells Hq.out) (fun h => rdV_none Hq.out h) (vcs_one rs) (by unfold maxLen; omega) (by omega) (Nat.le_refl _) ?next
      case next =>
        intro v3 W6 hown hg
        rw [Nat.zero_add, List.nil_append] at hown
        obtain ⟨B1, d1, rfl⟩ := own_form hown
        have hrd := (rd_ownV hown q4)
        have hb : Below W5.heap.size W5 W6 := (Below.refl _ _).grown hg (Nat.le_refl _) (fun k hk => by cases hk)
        clear hown hg
        have Hfresh := Lib.hid (HT.out)
        have hzo : w.heap.size ≤ W5.heap.size := by omega
        clear r_k q_k z_k
        obtain ⟨T', K'⟩ := HT.out.call hb
        replace T' : St w.heap.size w W6 [.blk W2.heap.size #[.int .i64 m, .slice A1 os.length c1] 26, .blk w.heap.size #[.int .i64 m, .slice A os.length c] 26] := T'
        replace K' : Keeps W5 [.blk W2.heap.size #[.int .i64 m, .slice A1 os.length c1] 26, .blk w.heap.size #[.int .i64 m, .slice A os.length c] 26] W6 [.blk W2.heap.size #[.int .i64 m, .slice A1 os.length c1] 26, .blk w.heap.size #[.int .i64 m, .slice A os.length c] 26] := K'
        replace HT := Lib.hid T'
        replace Hr : Hid (RdSl obE W6 (Fr 0 [.blk W2.heap.size #[.int .i64 m, .slice A1 os.length c1] 26, .blk w.heap.size #[.int .i64 m, .slice A os.length c] 26]) (.slice A os.length c) os) := Lib.hid (Hr.out.move (by decide) K')
        replace Hq : Hid (RdSl vE W6 (Fr 0 [.blk W2.heap.size #[.int .i64 m, .slice A1 os.length c1] 26, .blk w.heap.size #[.int .i64 m, .slice A os.length c] 26]) (.slice R rs.length d) rs) := Lib.hid (Hq.out.move (by decide) K')
        replace Hk : Hid (RdSl obE W6 (Fr w.heap.size [.blk W2.heap.size #[.int .i64 m, .slice A1 os.length c1] 26, .blk w.heap.size #[.int .i64 m, .slice A os.length c] 26]) (.slice A1 os.length c1) os) := Lib.hid (Hk.out.move (by decide) K')
        clear T' K'
        replace hz : w.heap.size + 1 ≤ W6.heap.size := Nat.le_trans hz hb.size
        clear hb
        have Hv : Hid (RdSl vE W6 (Fr w.heap.size [.blk W2.heap.size #[.int .i64 m, .slice A1 os.length c1] 26, .blk w.heap.size #[.int .i64 m, .slice A os.length c] 26]) (.slice B1 rs.length d1) rs) := Lib.hid (hrd.fresh (by decide) Hfresh.out hzo)
        clear hrd Hfresh hzo
        obtain ⟨r_k, q_k, -⟩ := HT.out.rules
        have z_k : W2.heap.size < W6.heap.size := (HT.out.in_ 0 rfl rfl).2
        go_wp2_with fail
        refine ⟨?_, ?_⟩
        · simp only [Again, pick, List.getElem?_toArray, List.getElem?_cons_succ, List.getElem?_cons_zero]
          refine ⟨?_, trivial⟩
          all_goals (still_step; exact wpStill_nil rfl)
        refine tr_alt ?_ ?_
        · refine tr_loud ?_
          simp only [pick, List.getElem?_toArray, List.getElem?_cons_succ, List.getElem?_cons_zero]
          go_wp2_with fail
          refine (G1.out _ _ _ _ _ _ _ Hk.out Hv.out).mono ?_
          rintro en W7 ⟨u1, B2, d2, rfl, ⟨A2, c2, rfl, hra⟩, hrv, hb⟩
          clear r_k q_k z_k
          have Hfresh := Lib.hid (HT.out)
          have hzo : w.heap.size ≤ W6.heap.size := by omega
          obtain ⟨T', K'⟩ := HT.out.call hb
          replace T' : St w.heap.size w W7 [.blk W2.heap.size #[.int .i64 m, .slice A1 os.length c1] 26, .blk w.heap.size #[.int .i64 m, .slice A os.length c] 26] := T'
          replace K' : Keeps W6 [.blk W2.heap.size #[.int .i64 m, .slice A1 os.length c1] 26, .blk w.heap.size #[.int .i64 m, .slice A os.length c] 26] W7 [.blk W2.heap.size #[.int .i64 m, .slice A1 os.length c1] 26, .blk w.heap.size #[.int .i64 m, .slice A os.length c] 26] := K'
          replace HT := Lib.hid T'
          replace Hr : Hid (RdSl obE W7 (Fr 0 [.blk W2.heap.size #[.int .i64 m, .slice A1 os.length c1] 26, .blk w.heap.size #[.int .i64 m, .slice A os.length c] 26]) (.slice A os.length c) os) := Lib.hid (Hr.out.move (by decide) K')
          replace Hq : Hid (RdSl vE W7 (Fr 0 [.blk W2.heap.size #[.int .i64 m, .slice A1 os.length c1] 26, .blk w.heap.size #[.int .i64 m, .slice A os.length c] 26]) (.slice R rs.length d) rs) := Lib.hid (Hq.out.move (by decide) K')
          replace Hk : Hid (RdSl obE W7 (Fr w.heap.size [.blk W2.heap.size #[.int .i64 m, .slice A1 os.length c1] 26, .blk w.heap.size #[.int .i64 m, .slice A os.length c] 26]) (.slice A1 os.length c1) os) := Lib.hid (Hk.out.move (by decide) K')
          replace Hv : Hid (RdSl vE W7 (Fr w.heap.size [.blk W2.heap.size #[.int .i64 m, .slice A1 os.length c1] 26, .blk w.heap.size #[.int .i64 m, .slice A os.length c] 26]) (.slice B1 rs.length d1) rs) := Lib.hid (Hv.out.move (by decide) K')
          clear T' K'
          replace hz : w.heap.size + 1 ≤ W7.heap.size := Nat.le_trans hz hb.size
          clear hb
          have Ha : Hid (RdSl obE W7 (Fr w.heap.size [.blk W2.heap.size #[.int .i64 m, .slice A1 os.length c1] 26, .blk w.heap.size #[.int .i64 m, .slice A os.length c] 26]) (.slice A2 oh.length c2) oh) := Lib.hid (hra.fresh (by first | decide | (show 0 < 1; omega)) Hfresh.out hzo)
          clear hra
          have Hva : Hid (RdSl vE W7 (Fr w.heap.size [.blk W2.heap.size #[.int .i64 m, .slice A1 os.length c1] 26, .blk w.heap.size #[.int .i64 m, .slice A os.length c] 26]) (.slice B2 tv.length d2) tv) := Lib.hid (hrv.fresh (by first | decide | (show 0 < 1; omega)) Hfresh.out hzo)
          clear hrv
          clear Hfresh hzo
          obtain ⟨r_k, q_k, -⟩ := HT.out.rules
          have z_k : W2.heap.size < W7.heap.size := (HT.out.in_ 0 rfl rfl).2
          go_wp2_with fail
          refine ⟨trivial, ?_⟩
          refine tr_still ?_
          simp only [pick, List.getElem?_toArray, List.getElem?_cons_succ, List.getElem?_cons_zero]
          repeat still_step
          refine wpStill_nil ?_
          refine tr_loud ?_
          simp only [pick, List.getElem?_toArray, List.getElem?_cons_succ, List.getElem?_cons_zero]
          go_wp2_with fail
          obtain ⟨T', K'⟩ := HT.out.new' #[.int .i64 0, .slice none 0 0] 26 W7.heap.size (by first | (simp; done) | rfl)
          replace T' : St w.heap.size w ((W7.alloc (.cells #[.int .i64 0, .slice none 0 0] 26))) [.blk W7.heap.size #[.int .i64 0, .slice none 0 0] 26, .blk W2.heap.size #[.int .i64 m, .slice A1 os.length c1] 26, .blk w.heap.size #[.int .i64 m, .slice A os.length c] 26] := T'
          replace K' : Keeps W7 [.blk W2.heap.size #[.int .i64 m, .slice A1 os.length c1] 26, .blk w.heap.size #[.int .i64 m, .slice A os.length c] 26] ((W7.alloc (.cells #[.int .i64 0, .slice none 0 0] 26))) [.blk W7.heap.size #[.int .i64 0, .slice none 0 0] 26, .blk W2.heap.size #[.int .i64 m, .slice A1 os.length c1] 26, .blk w.heap.size #[.int .i64 m, .slice A os.length c] 26] := K'
          replace HT := Lib.hid T'
          replace Hr : Hid (RdSl obE ((W7.alloc (.cells #[.int .i64 0, .slice none 0 0] 26))) (Fr 0 [.blk W7.heap.size #[.int .i64 0, .slice none 0 0] 26, .blk W2.heap.size #[.int .i64 m, .slice A1 os.length c1] 26, .blk w.heap.size #[.int .i64 m, .slice A os.length c] 26]) (.slice A os.length c) os) := Lib.hid (Hr.out.move (by decide) K')
          replace Hq : Hid (RdSl vE ((W7.alloc (.cells #[.int .i64 0, .slice none 0 0] 26))) (Fr 0 [.blk W7.heap.size #[.int .i64 0, .slice none 0 0] 26, .blk W2.heap.size #[.int .i64 m, .slice A1 os.length c1] 26, .blk w.heap.size #[.int .i64 m, .slice A os.length c] 26]) (.slice R rs.length d) rs) := Lib.hid (Hq.out.move (by decide) K')
          replace Hk : Hid (RdSl obE ((W7.alloc (.cells #[.int .i64 0, .slice none 0 0] 26))) (Fr w.heap.size [.blk W7.heap.size #[.int .i64 0, .slice none 0 0] 26, .blk W2.heap.size #[.int .i64 m, .slice A1 os.length c1] 26, .blk w.heap.size #[.int .i64 m, .slice A os.length c] 26]) (.slice A1 os.length c1) os) := Lib.hid (Hk.out.move (by decide) K')
          replace Hv : Hid (RdSl vE ((W7.alloc (.cells #[.int .i64 0, .slice none 0 0] 26))) (Fr w.heap.size [.blk W7.heap.size #[.int .i64 0, .slice none 0 0] 26, .blk W2.heap.size #[.int .i64 m, .slice A1 os.length c1] 26, .blk w.heap.size #[.int .i64 m, .slice A os.length c] 26]) (.slice B1 rs.length d1) rs) := Lib.hid (Hv.out.move (by decide) K')
          replace Ha : Hid (RdSl obE ((W7.alloc (.cells #[.int .i64 0, .slice none 0 0] 26))) (Fr w.heap.size [.blk W7.heap.size #[.int .i64 0, .slice none 0 0] 26, .blk W2.heap.size #[.int .i64 m, .slice A1 os.length c1] 26, .blk w.heap.size #[.int .i64 m, .slice A os.length c] 26]) (.slice A2 oh.length c2) oh) := Lib.hid (Ha.out.move (by decide) K')
          replace Hva : Hid (RdSl vE ((W7.alloc (.cells #[.int .i64 0, .slice none 0 0] 26))) (Fr w.heap.size [.blk W7.heap.size #[.int .i64 0, .slice none 0 0] 26, .blk W2.heap.size #[.int .i64 m, .slice A1 os.length c1] 26, .blk w.heap.size #[.int .i64 m, .slice A os.length c] 26]) (.slice B2 tv.length d2) tv) := Lib.hid (Hva.out.move (by decide) K')
          clear T' K'
          replace hz : w.heap.size + 1 ≤ ((W7.alloc (.cells #[.int .i64 0, .slice none 0 0] 26))).heap.size := Nat.le_trans hz (by simp)
          clear r_k q_k z_k
          generalize (W7.alloc (.cells #[.int .i64 0, .slice none 0 0] 26)) = W8 at *
          obtain ⟨r_a, q_a, r_k, q_k, -⟩ := HT.out.rules
          have z_a : W7.heap.size < W8.heap.size := (HT.out.in_ 0 rfl rfl).2
          have z_k : W2.heap.size < W8.heap.size := (HT.out.in_ 1 rfl rfl).2
          refine ⟨?_, ?_⟩
          · simp only [Again, pick, List.getElem?_toArray, List.getElem?_cons_succ, List.getElem?_cons_zero]
            refine ⟨?_, ?_, ?_, ?_, ?_, ?_, trivial⟩
            all_goals (still_step; exact wpStill_nil rfl)
          refine tr_loud ?_
          simp only [pick, List.getElem?_toArray, List.getElem?_cons_succ, List.getElem?_cons_zero]
          go_wp2_with fail
          clear r_a q_a r_k q_k z_a z_k
          obtain ⟨T', K'⟩ := HT.out.put2 0 (.int .i64 mh) (.slice A2 oh.length c2) rfl rfl
          replace T' : St w.heap.size w (((W8.setCell ⟨W7.heap.size, 0, none⟩ (.int .i64 mh)).setCell ⟨W7.heap.size, 1, none⟩ (.slice A2 oh.length c2))) [.blk W7.heap.size #[.int .i64 mh, .slice A2 oh.length c2] 26, .blk W2.heap.size #[.int .i64 m, .slice A1 os.length c1] 26, .blk w.heap.size #[.int .i64 m, .slice A os.length c] 26] := T'
          replace K' : Keeps W8 [.blk W7.heap.size #[.int .i64 0, .slice none 0 0] 26, .blk W2.heap.size #[.int .i64 m, .slice A1 os.length c1] 26, .blk w.heap.size #[.int .i64 m, .slice A os.length c] 26] (((W8.setCell ⟨W7.heap.size, 0, none⟩ (.int .i64 mh)).setCell ⟨W7.heap.size, 1, none⟩ (.slice A2 oh.length c2))) [.blk W7.heap.size #[.int .i64 mh, .slice A2 oh.length c2] 26, .blk W2.heap.size #[.int .i64 m, .slice A1 os.length c1] 26, .blk w.heap.size #[.int .i64 m, .slice A os.length c] 26] := K'
          replace HT := Lib.hid T'
          replace Hr : Hid (RdSl obE (((W8.setCell ⟨W7.heap.size, 0, none⟩ (.int .i64 mh)).setCell ⟨W7.heap.size, 1, none⟩ (.slice A2 oh.length c2))) (Fr 0 [.blk W7.heap.size #[.int .i64 mh, .slice A2 oh.length c2] 26, .blk W2.heap.size #[.int .i64 m, .slice A1 os.length c1] 26, .blk w.heap.size #[.int .i64 m, .slice A os.length c] 26]) (.slice A os.length c) os) := Lib.hid (Hr.out.move (by decide) K')
          replace Hq : Hid (RdSl vE (((W8.setCell ⟨W7.heap.size, 0, none⟩ (.int .i64 mh)).setCell ⟨W7.heap.size, 1, none⟩ (.slice A2 oh.length c2))) (Fr 0 [.blk W7.heap.size #[.int .i64 mh, .slice A2 oh.length c2] 26, .blk W2.heap.size #[.int .i64 m, .slice A1 os.length c1] 26, .blk w.heap.size #[.int .i64 m, .slice A os.length c] 26]) (.slice R rs.length d) rs) := Lib.hid (Hq.out.move (by decide) K')
          replace Hk : Hid (RdSl obE (((W8.setCell ⟨W7.heap.size, 0, none⟩ (.int .i64 mh)).setCell ⟨W7.heap.size, 1, none⟩ (.slice A2 oh.length c2))) (Fr w.heap.size [.blk W7.heap.size #[.int .i64 mh, .slice A2 oh.length c2] 26, .blk W2.heap.size #[.int .i64 m, .slice A1 os.length c1] 26, .blk w.heap.size #[.int .i64 m, .slice A os.length c] 26]) (.slice A1 os.length c1) os) := Lib.hid (Hk.out.move (by decide) K')
          replace Hv : Hid (RdSl vE (((W8.setCell ⟨W7.heap.size, 0, none⟩ (.int .i64 mh)).setCell ⟨W7.heap.size, 1, none⟩ (.slice A2 oh.length c2))) (Fr w.heap.size [.blk W7.heap.size #[.int .i64 mh, .slice A2 oh.length c2] 26, .blk W2.heap.size #[.int .i64 m, .slice A1 os.length c1] 26, .blk w.heap.size #[.int .i64 m, .slice A os.length c] 26]) (.slice B1 rs.length d1) rs) := Lib.hid (Hv.out.move (by decide) K')
          replace Ha : Hid (RdSl obE (((W8.setCell ⟨W7.heap.size, 0, none⟩ (.int .i64 mh)).setCell ⟨W7.heap.size, 1, none⟩ (.slice A2 oh.length c2))) (Fr w.heap.size [.blk W7.heap.size #[.int .i64 mh, .slice A2 oh.length c2] 26, .blk W2.heap.size #[.int .i64 m, .slice A1 os.length c1] 26, .blk w.heap.size #[.int .i64 m, .slice A os.length c] 26]) (.slice A2 oh.length c2) oh) := Lib.hid (Ha.out.move (by decide) K')
          replace Hva : Hid (RdSl vE (((W8.setCell ⟨W7.heap.size, 0, none⟩ (.int .i64 mh)).setCell ⟨W7.heap.size, 1, none⟩ (.slice A2 oh.length c2))) (Fr w.heap.size [.blk W7.heap.size #[.int .i64 mh, .slice A2 oh.length c2] 26, .blk W2.heap.size #[.int .i64 m, .slice A1 os.length c1] 26, .blk w.heap.size #[.int .i64 m, .slice A os.length c] 26]) (.slice B2 tv.length d2) tv) := Lib.hid (Hva.out.move (by decide) K')
          clear T' K'
          replace hz : w.heap.size + 1 ≤ (((W8.setCell ⟨W7.heap.size, 0, none⟩ (.int .i64 mh)).setCell ⟨W7.heap.size, 1, none⟩ (.slice A2 oh.length c2))).heap.size := by simpa using hz
          generalize (W8.setCell ⟨W7.heap.size, 0, none⟩ (.int .i64 mh)).setCell ⟨W7.heap.size, 1, none⟩ (.slice A2 oh.length c2) = W9 at *
          obtain ⟨-, -, r_k, q_k, -⟩ := HT.out.rules
          have z_k : W2.heap.size < W9.heap.size := (HT.out.in_ 1 rfl rfl).2
          refine ⟨?_, ?_⟩
          · simp only [Again, pick, List.getElem?_toArray, List.getElem?_cons_succ, List.getElem?_cons_zero]
            refine ⟨?_, ?_, trivial⟩
            all_goals (still_step; exact wpStill_nil rfl)
          refine tr_still ?_
          simp only [pick, List.getElem?_toArray, List.getElem?_cons_succ, List.getElem?_cons_zero]
          repeat still_step
          refine wpStill_nil ?_
          have hP9 := HT.out.perm (R' := [.blk W7.heap.size #[.int .i64 mh, .slice A2 oh.length c2] 26, .blk W2.heap.size #[.int .i64 m, .slice A1 os.length c1] 26, .blk w.heap.size #[.int .i64 m, .slice A os.length c] 26]) (.refl _)
          refine tr_done ?_
          refine ⟨W7.heap.size, A2, B2, c2, d2, hP9.1, Hr.out.move (by decide) hP9.2, Hq.out.move (by decide) hP9.2, Hk.out.move (by decide) hP9.2, Ha.out.move (by decide) hP9.2, Hva.out.move (by decide) hP9.2, hz, ?_⟩
          repeat (apply Exists.intro)
          try simp only [Act.put, List.setIfInBounds_toArray, List.set_cons_succ, List.set_cons_zero]
          rfl
        · refine tr_loud ?_
          simp only [pick, List.getElem?_toArray, List.getElem?_cons_succ, List.getElem?_cons_zero]
          go_wp2_with fail
          obtain ⟨T', K'⟩ := HT.out.new' #[.int .i64 0, .slice none 0 0] 26 W6.heap.size (by first | (simp; done) | rfl)
          replace T' : St w.heap.size w ((W6.alloc (.cells #[.int .i64 0, .slice none 0 0] 26))) [.blk W6.heap.size #[.int .i64 0, .slice none 0 0] 26, .blk W2.heap.size #[.int .i64 m, .slice A1 os.length c1] 26, .blk w.heap.size #[.int .i64 m, .slice A os.length c] 26] := T'
          replace K' : Keeps W6 [.blk W2.heap.size #[.int .i64 m, .slice A1 os.length c1] 26, .blk w.heap.size #[.int .i64 m, .slice A os.length c] 26] ((W6.alloc (.cells #[.int .i64 0, .slice none 0 0] 26))) [.blk W6.heap.size #[.int .i64 0, .slice none 0 0] 26, .blk W2.heap.size #[.int .i64 m, .slice A1 os.length c1] 26, .blk w.heap.size #[.int .i64 m, .slice A os.length c] 26] := K'
          replace HT := Lib.hid T'
          replace Hr : Hid (RdSl obE ((W6.alloc (.cells #[.int .i64 0, .slice none 0 0] 26))) (Fr 0 [.blk W6.heap.size #[.int .i64 0, .slice none 0 0] 26, .blk W2.heap.size #[.int .i64 m, .slice A1 os.length c1] 26, .blk w.heap.size #[.int .i64 m, .slice A os.length c] 26]) (.slice A os.length c) os) := Lib.hid (Hr.out.move (by decide) K')
          replace Hq : Hid (RdSl vE ((W6.alloc (.cells #[.int .i64 0, .slice none 0 0] 26))) (Fr 0 [.blk W6.heap.size #[.int .i64 0, .slice none 0 0] 26, .blk W2.heap.size #[.int .i64 m, .slice A1 os.length c1] 26, .blk w.heap.size #[.int .i64 m, .slice A os.length c] 26]) (.slice R rs.length d) rs) := Lib.hid (Hq.out.move (by decide) K')
          replace Hk : Hid (RdSl obE ((W6.alloc (.cells #[.int .i64 0, .slice none 0 0] 26))) (Fr w.heap.size [.blk W6.heap.size #[.int .i64 0, .slice none 0 0] 26, .blk W2.heap.size #[.int .i64 m, .slice A1 os.length c1] 26, .blk w.heap.size #[.int .i64 m, .slice A os.length c] 26]) (.slice A1 os.length c1) os) := Lib.hid (Hk.out.move (by decide) K')
          replace Hv : Hid (RdSl vE ((W6.alloc (.cells #[.int .i64 0, .slice none 0 0] 26))) (Fr w.heap.size [.blk W6.heap.size #[.int .i64 0, .slice none 0 0] 26, .blk W2.heap.size #[.int .i64 m, .slice A1 os.length c1] 26, .blk w.heap.size #[.int .i64 m, .slice A os.length c] 26]) (.slice B1 rs.length d1) rs) := Lib.hid (Hv.out.move (by decide) K')
          clear T' K'
          replace hz : w.heap.size + 1 ≤ ((W6.alloc (.cells #[.int .i64 0, .slice none 0 0] 26))).heap.size := Nat.le_trans hz (by simp)
          clear r_k q_k z_k
          generalize (W6.alloc (.cells #[.int .i64 0, .slice none 0 0] 26)) = W10 at *
          obtain ⟨r_a, q_a, r_k, q_k, -⟩ := HT.out.rules
          have z_a : W6.heap.size < W10.heap.size := (HT.out.in_ 0 rfl rfl).2
          have z_k : W2.heap.size < W10.heap.size := (HT.out.in_ 1 rfl rfl).2
          refine ⟨?_, ?_⟩
          · simp only [Again, pick, List.getElem?_toArray, List.getElem?_cons_succ, List.getElem?_cons_zero]
            refine ⟨?_, ?_, trivial⟩
            all_goals (still_step; exact wpStill_nil rfl)
          refine tr_loud ?_
          simp only [pick, List.getElem?_toArray, List.getElem?_cons_succ, List.getElem?_cons_zero]
          go_wp2_with fail
          refine (G1.out _ _ _ _ _ _ _ Hk.out Hv.out).mono ?_
          rintro en W11 ⟨u1, B2, d2, rfl, ⟨A2, c2, rfl, hra⟩, hrv, hb⟩
          clear r_a q_a r_k q_k z_a z_k
          have Hfresh := Lib.hid (HT.out)
          have hzo : w.heap.size ≤ W10.heap.size := by omega
          obtain ⟨T', K'⟩ := HT.out.call hb
          replace T' : St w.heap.size w W11 [.blk W6.heap.size #[.int .i64 0, .slice none 0 0] 26, .blk W2.heap.size #[.int .i64 m, .slice A1 os.length c1] 26, .blk w.heap.size #[.int .i64 m, .slice A os.length c] 26] := T'
          replace K' : Keeps W10 [.blk W6.heap.size #[.int .i64 0, .slice none 0 0] 26, .blk W2.heap.size #[.int .i64 m, .slice A1 os.length c1] 26, .blk w.heap.size #[.int .i64 m, .slice A os.length c] 26] W11 [.blk W6.heap.size #[.int .i64 0, .slice none 0 0] 26, .blk W2.heap.size #[.int .i64 m, .slice A1 os.length c1] 26, .blk w.heap.size #[.int .i64 m, .slice A os.length c] 26] := K'
          replace HT := Lib.hid T'
          replace Hr : Hid (RdSl obE W11 (Fr 0 [.blk W6.heap.size #[.int .i64 0, .slice none 0 0] 26, .blk W2.heap.size #[.int .i64 m, .slice A1 os.length c1] 26, .blk w.heap.size #[.int .i64 m, .slice A os.length c] 26]) (.slice A os.length c) os) := Lib.hid (Hr.out.move (by decide) K')
          replace Hq : Hid (RdSl vE W11 (Fr 0 [.blk W6.heap.size #[.int .i64 0, .slice none 0 0] 26, .blk W2.heap.size #[.int .i64 m, .slice A1 os.length c1] 26, .blk w.heap.size #[.int .i64 m, .slice A os.length c] 26]) (.slice R rs.length d) rs) := Lib.hid (Hq.out.move (by decide) K')
          replace Hk : Hid (RdSl obE W11 (Fr w.heap.size [.blk W6.heap.size #[.int .i64 0, .slice none 0 0] 26, .blk W2.heap.size #[.int .i64 m, .slice A1 os.length c1] 26, .blk w.heap.size #[.int .i64 m, .slice A os.length c] 26]) (.slice A1 os.length c1) os) := Lib.hid (Hk.out.move (by decide) K')
          replace Hv : Hid (RdSl vE W11 (Fr w.heap.size [.blk W6.heap.size #[.int .i64 0, .slice none 0 0] 26, .blk W2.heap.size #[.int .i64 m, .slice A1 os.length c1] 26, .blk w.heap.size #[.int .i64 m, .slice A os.length c] 26]) (.slice B1 rs.length d1) rs) := Lib.hid (Hv.out.move (by decide) K')
          clear T' K'
          replace hz : w.heap.size + 1 ≤ W11.heap.size := Nat.le_trans hz hb.size
          clear hb
          have Ha : Hid (RdSl obE W11 (Fr w.heap.size [.blk W6.heap.size #[.int .i64 0, .slice none 0 0] 26, .blk W2.heap.size #[.int .i64 m, .slice A1 os.length c1] 26, .blk w.heap.size #[.int .i64 m, .slice A os.length c] 26]) (.slice A2 oh.length c2) oh) := Lib.hid (hra.fresh (by first | decide | (show 0 < 1; omega)) Hfresh.out hzo)
          clear hra
          have Hva : Hid (RdSl vE W11 (Fr w.heap.size [.blk W6.heap.size #[.int .i64 0, .slice none 0 0] 26, .blk W2.heap.size #[.int .i64 m, .slice A1 os.length c1] 26, .blk w.heap.size #[.int .i64 m, .slice A os.length c] 26]) (.slice B2 tv.length d2) tv) := Lib.hid (hrv.fresh (by first | decide | (show 0 < 1; omega)) Hfresh.out hzo)
          clear hrv
          clear Hfresh hzo
          obtain ⟨r_a, q_a, r_k, q_k, -⟩ := HT.out.rules
          have z_a : W6.heap.size < W11.heap.size := (HT.out.in_ 0 rfl rfl).2
          have z_k : W2.heap.size < W11.heap.size := (HT.out.in_ 1 rfl rfl).2
          go_wp2_with fail
          refine ⟨trivial, ?_⟩
          refine tr_still ?_
          simp only [pick, List.getElem?_toArray, List.getElem?_cons_succ, List.getElem?_cons_zero]
          repeat still_step
          refine wpStill_nil ?_
          refine tr_loud ?_
          simp only [pick, List.getElem?_toArray, List.getElem?_cons_succ, List.getElem?_cons_zero]
          go_wp2_with fail
          clear r_a q_a r_k q_k z_a z_k
          obtain ⟨T', K'⟩ := HT.out.put2 0 (.int .i64 mh) (.slice A2 oh.length c2) rfl rfl
          replace T' : St w.heap.size w (((W11.setCell ⟨W6.heap.size, 0, none⟩ (.int .i64 mh)).setCell ⟨W6.heap.size, 1, none⟩ (.slice A2 oh.length c2))) [.blk W6.heap.size #[.int .i64 mh, .slice A2 oh.length c2] 26, .blk W2.heap.size #[.int .i64 m, .slice A1 os.length c1] 26, .blk w.heap.size #[.int .i64 m, .slice A os.length c] 26] := T'
          replace K' : Keeps W11 [.blk W6.heap.size #[.int .i64 0, .slice none 0 0] 26, .blk W2.heap.size #[.int .i64 m, .slice A1 os.length c1] 26, .blk w.heap.size #[.int .i64 m, .slice A os.length c] 26] (((W11.setCell ⟨W6.heap.size, 0, none⟩ (.int .i64 mh)).setCell ⟨W6.heap.size, 1, none⟩ (.slice A2 oh.length c2))) [.blk W6.heap.size #[.int .i64 mh, .slice A2 oh.length c2] 26, .blk W2.heap.size #[.int .i64 m, .slice A1 os.length c1] 26, .blk w.heap.size #[.int .i64 m, .slice A os.length c] 26] := K'
          replace HT := Lib.hid T'
          replace Hr : Hid (RdSl obE (((W11.setCell ⟨W6.heap.size, 0, none⟩ (.int .i64 mh)).setCell ⟨W6.heap.size, 1, none⟩ (.slice A2 oh.length c2))) (Fr 0 [.blk W6.heap.size #[.int .i64 mh, .slice A2 oh.length c2] 26, .blk W2.heap.size #[.int .i64 m, .slice A1 os.length c1] 26, .blk w.heap.size #[.int .i64 m, .slice A os.length c] 26]) (.slice A os.length c) os) := Lib.hid (Hr.out.move (by decide) K')
          replace Hq : Hid (RdSl vE (((W11.setCell ⟨W6.heap.size, 0, none⟩ (.int .i64 mh)).setCell ⟨W6.heap.size, 1, none⟩ (.slice A2 oh.length c2))) (Fr 0 [.blk W6.heap.size #[.int .i64 mh, .slice A2 oh.length c2] 26, .blk W2.heap.size #[.int .i64 m, .slice A1 os.length c1] 26, .blk w.heap.size #[.int .i64 m, .slice A os.length c] 26]) (.slice R rs.length d) rs) := Lib.hid (Hq.out.move (by decide) K')
          replace Hk : Hid (RdSl obE (((W11.setCell ⟨W6.heap.size, 0, none⟩ (.int .i64 mh)).setCell ⟨W6.heap.size, 1, none⟩ (.slice A2 oh.length c2))) (Fr w.heap.size [.blk W6.heap.size #[.int .i64 mh, .slice A2 oh.length c2] 26, .blk W2.heap.size #[.int .i64 m, .slice A1 os.length c1] 26, .blk w.heap.size #[.int .i64 m, .slice A os.length c] 26]) (.slice A1 os.length c1) os) := Lib.hid (Hk.out.move (by decide) K')
          replace Hv : Hid (RdSl vE (((W11.setCell ⟨W6.heap.size, 0, none⟩ (.int .i64 mh)).setCell ⟨W6.heap.size, 1, none⟩ (.slice A2 oh.length c2))) (Fr w.heap.size [.blk W6.heap.size #[.int .i64 mh, .slice A2 oh.length c2] 26, .blk W2.heap.size #[.int .i64 m, .slice A1 os.length c1] 26, .blk w.heap.size #[.int .i64 m, .slice A os.length c] 26]) (.slice B1 rs.length d1) rs) := Lib.hid (Hv.out.move (by decide) K')
          replace Ha : Hid (RdSl obE (((W11.setCell ⟨W6.heap.size, 0, none⟩ (.int .i64 mh)).setCell ⟨W6.heap.size, 1, none⟩ (.slice A2 oh.length c2))) (Fr w.heap.size [.blk W6.heap.size #[.int .i64 mh, .slice A2 oh.length c2] 26, .blk W2.heap.size #[.int .i64 m, .slice A1 os.length c1] 26, .blk w.heap.size #[.int .i64 m, .slice A os.length c] 26]) (.slice A2 oh.length c2) oh) := Lib.hid (Ha.out.move (by decide) K')
          replace Hva : Hid (RdSl vE (((W11.setCell ⟨W6.heap.size, 0, none⟩ (.int .i64 mh)).setCell ⟨W6.heap.size, 1, none⟩ (.slice A2 oh.length c2))) (Fr w.heap.size [.blk W6.heap.size #[.int .i64 mh, .slice A2 oh.length c2] 26, .blk W2.heap.size #[.int .i64 m, .slice A1 os.length c1] 26, .blk w.heap.size #[.int .i64 m, .slice A os.length c] 26]) (.slice B2 tv.length d2) tv) := Lib.hid (Hva.out.move (by decide) K')
          clear T' K'
          replace hz : w.heap.size + 1 ≤ (((W11.setCell ⟨W6.heap.size, 0, none⟩ (.int .i64 mh)).setCell ⟨W6.heap.size, 1, none⟩ (.slice A2 oh.length c2))).heap.size := by simpa using hz
          generalize (W11.setCell ⟨W6.heap.size, 0, none⟩ (.int .i64 mh)).setCell ⟨W6.heap.size, 1, none⟩ (.slice A2 oh.length c2) = W12 at *
          obtain ⟨-, -, r_k, q_k, -⟩ := HT.out.rules
          have z_k : W2.heap.size < W12.heap.size := (HT.out.in_ 1 rfl rfl).2
          refine ⟨?_, ?_⟩
          · simp only [Again, pick, List.getElem?_toArray, List.getElem?_cons_succ, List.getElem?_cons_zero]
            refine ⟨?_, ?_, trivial⟩
            all_goals (still_step; exact wpStill_nil rfl)
          refine tr_still ?_
          simp only [pick, List.getElem?_toArray, List.getElem?_cons_succ, List.getElem?_cons_zero]
          repeat still_step
          refine wpStill_nil ?_
          have hP9 := HT.out.perm (R' := [.blk W6.heap.size #[.int .i64 mh, .slice A2 oh.length c2] 26, .blk W2.heap.size #[.int .i64 m, .slice A1 os.length c1] 26, .blk w.heap.size #[.int .i64 m, .slice A os.length c] 26]) (.refl _)
          refine tr_done ?_
          refine ⟨W6.heap.size, A2, B2, c2, d2, hP9.1, Hr.out.move (by decide) hP9.2, Hq.out.move (by decide) hP9.2, Hk.out.move (by decide) hP9.2, Ha.out.move (by decide) hP9.2, Hva.out.move (by decide) hP9.2, hz, ?_⟩
          repeat (apply Exists.intro)
          try simp only [Act.put, List.setIfInBounds_toArray, List.set_cons_succ, List.set_cons_zero]
          rfl
    · refine tr_loud ?_
      simp only [pick, List.getElem?_toArray, List.getElem?_cons_succ, List.getElem?_cons_zero]
      go_wp2_with fail
      obtain ⟨T', K'⟩ := HT.out.new' #[.int .i64 0, .slice none 0 0] 26 W5.heap.size (by first | (simp; done) | rfl)
      replace T' : St w.heap.size w ((W5.alloc (.cells #[.int .i64 0, .slice none 0 0] 26))) [.blk W5.heap.size #[.int .i64 0, .slice none 0 0] 26, .blk W2.heap.size #[.int .i64 m, .slice A1 os.length c1] 26, .blk w.heap.size #[.int .i64 m, .slice A os.length c] 26] := T'
      replace K' : Keeps W5 [.blk W2.heap.size #[.int .i64 m, .slice A1 os.length c1] 26, .blk w.heap.size #[.int .i64 m, .slice A os.length c] 26] ((W5.alloc (.cells #[.int .i64 0, .slice none 0 0] 26))) [.blk W5.heap.size #[.int .i64 0, .slice none 0 0] 26, .blk W2.heap.size #[.int .i64 m, .slice A1 os.length c1] 26, .blk w.heap.size #[.int .i64 m, .slice A os.length c] 26] := K'
      replace HT := Lib.hid T'
      replace Hr : Hid (RdSl obE ((W5.alloc (.cells #[.int .i64 0, .slice none 0 0] 26))) (Fr 0 [.blk W5.heap.size #[.int .i64 0, .slice none 0 0] 26, .blk W2.heap.size #[.int .i64 m, .slice A1 os.length c1] 26, .blk w.heap.size #[.int .i64 m, .slice A os.length c] 26]) (.slice A os.length c) os) := Lib.hid (Hr.out.move (by decide) K')
      replace Hq : Hid (RdSl vE ((W5.alloc (.cells #[.int .i64 0, .slice none 0 0] 26))) (Fr 0 [.blk W5.heap.size #[.int .i64 0, .slice none 0 0] 26, .blk W2.heap.size #[.int .i64 m, .slice A1 os.length c1] 26, .blk w.heap.size #[.int .i64 m, .slice A os.length c] 26]) (.slice R rs.length d) rs) := Lib.hid (Hq.out.move (by decide) K')
      replace Hk : Hid (RdSl obE ((W5.alloc (.cells #[.int .i64 0, .slice none 0 0] 26))) (Fr w.heap.size [.blk W5.heap.size #[.int .i64 0, .slice none 0 0] 26, .blk W2.heap.size #[.int .i64 m, .slice A1 os.length c1] 26, .blk w.heap.size #[.int .i64 m, .slice A os.length c] 26]) (.slice A1 os.length c1) os) := Lib.hid (Hk.out.move (by decide) K')
      clear T' K'
      replace hz : w.heap.size + 1 ≤ ((W5.alloc (.cells #[.int .i64 0, .slice none 0 0] 26))).heap.size := Nat.le_trans hz (by simp)
      clear r_k q_k z_k
      generalize (W5.alloc (.cells #[.int .i64 0, .slice none 0 0] 26)) = W13 at *
      obtain ⟨r_a, q_a, r_k, q_k, -⟩ := HT.out.rules
      have z_a : W5.heap.size < W13.heap.size := (HT.out.in_ 0 rfl rfl).2
      have z_k : W2.heap.size < W13.heap.size := (HT.out.in_ 1 rfl rfl).2
      refine ⟨?_, ?_⟩
      · simp only [Again, pick, List.getElem?_toArray, List.getElem?_cons_succ, List.getElem?_cons_zero]
        refine ⟨?_, ?_, trivial⟩
        all_goals (still_step; exact wpStill_nil rfl)
      refine tr_loud ?_
      simp only [pick, List.getElem?_toArray, List.getElem?_cons_succ, List.getElem?_cons_zero]
      refine wpList_append_any _ rfl (.const (.slice none 0 0)) (.tmp 16) _ rfl W13.heap.size 31 iv _ 2 16 Try.underlying27 hiv hv0 hv1 hv2 rfl (by omega) (.slice none 0 0) 0 [] rfl ⟨by simp, .inl ⟨rfl, rfl⟩⟩ R rs.length d (cat (vcs rs)) rfl (by rw [vcs_cat_len]) (rdV_cells Hq.out) (fun h => rdV_none Hq.out h) (vcs_one rs) (by unfold maxLen; omega) (by omega) (Nat.le_refl _) ?next
      case next =>
        intro v3 W14 hown hg
        rw [Nat.zero_add, List.nil_append] at hown
        obtain ⟨B1, d1, rfl⟩ := own_form hown
        have hrd := (rd_ownV hown q4)
        have hb : Below W13.heap.size W13 W14 := (Below.refl _ _).grown hg (Nat.le_refl _) (fun k hk => by cases hk)
        clear hown hg
        have Hfresh := Lib.hid (HT.out)
        have hzo : w.heap.size ≤ W13.heap.size := by omega
        clear r_a q_a r_k q_k z_a z_k
        obtain ⟨T', K'⟩ := HT.out.call hb
        replace T' : St w.heap.size w W14 [.blk W5.heap.size #[.int .i64 0, .slice none 0 0] 26, .blk W2.heap.size #[.int .i64 m, .slice A1 os.length c1] 26, .blk w.heap.size #[.int .i64 m, .slice A os.length c] 26] := T'
        replace K' : Keeps W13 [.blk W5.heap.size #[.int .i64 0, .slice none 0 0] 26, .blk W2.heap.size #[.int .i64 m, .slice A1 os.length c1] 26, .blk w.heap.size #[.int .i64 m, .slice A os.length c] 26] W14 [.blk W5.heap.size #[.int .i64 0, .slice none 0 0] 26, .blk W2.heap.size #[.int .i64 m, .slice A1 os.length c1] 26, .blk w.heap.size #[.int .i64 m, .slice A os.length c] 26] := K'
        replace HT := Lib.hid T'
        replace Hr : Hid (RdSl obE W14 (Fr 0 [.blk W5.heap.size #[.int .i64 0, .slice none 0 0] 26, .blk W2.heap.size #[.int .i64 m, .slice A1 os.length c1] 26, .blk w.heap.size #[.int .i64 m, .slice A os.length c] 26]) (.slice A os.length c) os) := Lib.hid (Hr.out.move (by decide) K')
        replace Hq : Hid (RdSl vE W14 (Fr 0 [.blk W5.heap.size #[.int .i64 0, .slice none 0 0] 26, .blk W2.heap.size #[.int .i64 m, .slice A1 os.length c1] 26, .blk w.heap.size #[.int .i64 m, .slice A os.length c] 26]) (.slice R rs.length d) rs) := Lib.hid (Hq.out.move (by decide) K')
        replace Hk : Hid (RdSl obE W14 (Fr w.heap.size [.blk W5.heap.size #[.int .i64 0, .slice none 0 0] 26, .blk W2.heap.size #[.int .i64 m, .slice A1 os.length c1] 26, .blk w.heap.size #[.int .i64 m, .slice A os.length c] 26]) (.slice A1 os.length c1) os) := Lib.hid (Hk.out.move (by decide) K')
        clear T' K'
        replace hz : w.heap.size + 1 ≤ W14.heap.size := Nat.le_trans hz hb.size
        clear hb
        have Hv : Hid (RdSl vE W14 (Fr w.heap.size [.blk W5.heap.size #[.int .i64 0, .slice none 0 0] 26, .blk W2.heap.size #[.int .i64 m, .slice A1 os.length c1] 26, .blk w.heap.size #[.int .i64 m, .slice A os.length c] 26]) (.slice B1 rs.length d1) rs) := Lib.hid (hrd.fresh (by decide) Hfresh.out hzo)
        clear hrd Hfresh hzo
        obtain ⟨r_a, q_a, r_k, q_k, -⟩ := HT.out.rules
        have z_a : W5.heap.size < W14.heap.size := (HT.out.in_ 0 rfl rfl).2
        have z_k : W2.heap.size < W14.heap.size := (HT.out.in_ 1 rfl rfl).2
        go_wp2_with fail
        refine ⟨?_, ?_⟩
        · simp only [Again, pick, List.getElem?_toArray, List.getElem?_cons_succ, List.getElem?_cons_zero]
          refine ⟨?_, trivial⟩
          all_goals (still_step; exact wpStill_nil rfl)
        refine tr_loud ?_
        simp only [pick, List.getElem?_toArray, List.getElem?_cons_succ, List.getElem?_cons_zero]
        go_wp2_with fail
        refine (G1.out _ _ _ _ _ _ _ Hk.out Hv.out).mono ?_
        rintro en W15 ⟨u1, B2, d2, rfl, ⟨A2, c2, rfl, hra⟩, hrv, hb⟩
        clear r_a q_a r_k q_k z_a z_k
        have Hfresh := Lib.hid (HT.out)
        have hzo : w.heap.size ≤ W14.heap.size := by omega
        obtain ⟨T', K'⟩ := HT.out.call hb
        replace T' : St w.heap.size w W15 [.blk W5.heap.size #[.int .i64 0, .slice none 0 0] 26, .blk W2.heap.size #[.int .i64 m, .slice A1 os.length c1] 26, .blk w.heap.size #[.int .i64 m, .slice A os.length c] 26] := T'
        replace K' : Keeps W14 [.blk W5.heap.size #[.int .i64 0, .slice none 0 0] 26, .blk W2.heap.size #[.int .i64 m, .slice A1 os.length c1] 26, .blk w.heap.size #[.int .i64 m, .slice A os.length c] 26] W15 [.blk W5.heap.size #[.int .i64 0, .slice none 0 0] 26, .blk W2.heap.size #[.int .i64 m, .slice A1 os.length c1] 26, .blk w.heap.size #[.int .i64 m, .slice A os.length c] 26] := K'
        replace HT := Lib.hid T'
        replace Hr : Hid (RdSl obE W15 (Fr 0 [.blk W5.heap.size #[.int .i64 0, .slice none 0 0] 26, .blk W2.heap.size #[.int .i64 m, .slice A1 os.length c1] 26, .blk w.heap.size #[.int .i64 m, .slice A os.length c] 26]) (.slice A os.length c) os) := Lib.hid (Hr.out.move (by decide) K')
        replace Hq : Hid (RdSl vE W15 (Fr 0 [.blk W5.heap.size #[.int .i64 0, .slice none 0 0] 26, .blk W2.heap.size #[.int .i64 m, .slice A1 os.length c1] 26, .blk w.heap.size #[.int .i64 m, .slice A os.length c] 26]) (.slice R rs.length d) rs) := Lib.hid (Hq.out.move (by decide) K')
        replace Hk : Hid (RdSl obE W15 (Fr w.heap.size [.blk W5.heap.size #[.int .i64 0, .slice none 0 0] 26, .blk W2.heap.size #[.int .i64 m, .slice A1 os.length c1] 26, .blk w.heap.size #[.int .i64 m, .slice A os.length c] 26]) (.slice A1 os.length c1) os) := Lib.hid (Hk.out.move (by decide) K')
        replace Hv : Hid (RdSl vE W15 (Fr w.heap.size [.blk W5.heap.size #[.int .i64 0, .slice none 0 0] 26, .blk W2.heap.size #[.int .i64 m, .slice A1 os.length c1] 26, .blk w.heap.size #[.int .i64 m, .slice A os.length c] 26]) (.slice B1 rs.length d1) rs) := Lib.hid (Hv.out.move (by decide) K')
        clear T' K'
        replace hz : w.heap.size + 1 ≤ W15.heap.size := Nat.le_trans hz hb.size
        clear hb
        have Ha : Hid (RdSl obE W15 (Fr w.heap.size [.blk W5.heap.size #[.int .i64 0, .slice none 0 0] 26, .blk W2.heap.size #[.int .i64 m, .slice A1 os.length c1] 26, .blk w.heap.size #[.int .i64 m, .slice A os.length c] 26]) (.slice A2 oh.length c2) oh) := Lib.hid (hra.fresh (by first | decide | (show 0 < 1; omega)) Hfresh.out hzo)
        clear hra
        have Hva : Hid (RdSl vE W15 (Fr w.heap.size [.blk W5.heap.size #[.int .i64 0, .slice none 0 0] 26, .blk W2.heap.size #[.int .i64 m, .slice A1 os.length c1] 26, .blk w.heap.size #[.int .i64 m, .slice A os.length c] 26]) (.slice B2 tv.length d2) tv) := Lib.hid (hrv.fresh (by first | decide | (show 0 < 1; omega)) Hfresh.out hzo)
        clear hrv
        clear Hfresh hzo
        obtain ⟨r_a, q_a, r_k, q_k, -⟩ := HT.out.rules
        have z_a : W5.heap.size < W15.heap.size := (HT.out.in_ 0 rfl rfl).2
        have z_k : W2.heap.size < W15.heap.size := (HT.out.in_ 1 rfl rfl).2
        go_wp2_with fail
        refine ⟨trivial, ?_⟩
        refine tr_still ?_
        simp only [pick, List.getElem?_toArray, List.getElem?_cons_succ, List.getElem?_cons_zero]
        repeat still_step
        refine wpStill_nil ?_
        refine tr_loud ?_
        simp only [pick, List.getElem?_toArray, List.getElem?_cons_succ, List.getElem?_cons_zero]
        go_wp2_with fail
        clear r_a q_a r_k q_k z_a z_k
        obtain ⟨T', K'⟩ := HT.out.put2 0 (.int .i64 mh) (.slice A2 oh.length c2) rfl rfl
        replace T' : St w.heap.size w (((W15.setCell ⟨W5.heap.size, 0, none⟩ (.int .i64 mh)).setCell ⟨W5.heap.size, 1, none⟩ (.slice A2 oh.length c2))) [.blk W5.heap.size #[.int .i64 mh, .slice A2 oh.length c2] 26, .blk W2.heap.size #[.int .i64 m, .slice A1 os.length c1] 26, .blk w.heap.size #[.int .i64 m, .slice A os.length c] 26] := T'
        replace K' : Keeps W15 [.blk W5.heap.size #[.int .i64 0, .slice none 0 0] 26, .blk W2.heap.size #[.int .i64 m, .slice A1 os.length c1] 26, .blk w.heap.size #[.int .i64 m, .slice A os.length c] 26] (((W15.setCell ⟨W5.heap.size, 0, none⟩ (.int .i64 mh)).setCell ⟨W5.heap.size, 1, none⟩ (.slice A2 oh.length c2))) [.blk W5.heap.size #[.int .i64 mh, .slice A2 oh.length c2] 26, .blk W2.heap.size #[.int .i64 m, .slice A1 os.length c1] 26, .blk w.heap.size #[.int .i64 m, .slice A os.length c] 26] := K'
        replace HT := Lib.hid T'
        replace Hr : Hid (RdSl obE (((W15.setCell ⟨W5.heap.size, 0, none⟩ (.int .i64 mh)).setCell ⟨W5.heap.size, 1, none⟩ (.slice A2 oh.length c2))) (Fr 0 [.blk W5.heap.size #[.int .i64 mh, .slice A2 oh.length c2] 26, .blk W2.heap.size #[.int .i64 m, .slice A1 os.length c1] 26, .blk w.heap.size #[.int .i64 m, .slice A os.length c] 26]) (.slice A os.length c) os) := Lib.hid (Hr.out.move (by decide) K')
        replace Hq : Hid (RdSl vE (((W15.setCell ⟨W5.heap.size, 0, none⟩ (.int .i64 mh)).setCell ⟨W5.heap.size, 1, none⟩ (.slice A2 oh.length c2))) (Fr 0 [.blk W5.heap.size #[.int .i64 mh, .slice A2 oh.length c2] 26, .blk W2.heap.size #[.int .i64 m, .slice A1 os.length c1] 26, .blk w.heap.size #[.int .i64 m, .slice A os.length c] 26]) (.slice R rs.length d) rs) := Lib.hid (Hq.out.move (by decide) K')
        replace Hk : Hid (RdSl obE (((W15.setCell ⟨W5.heap.size, 0, none⟩ (.int .i64 mh)).setCell ⟨W5.heap.size, 1, none⟩ (.slice A2 oh.length c2))) (Fr w.heap.size [.blk W5.heap.size #[.int .i64 mh, .slice A2 oh.length c2] 26, .blk W2.heap.size #[.int .i64 m, .slice A1 os.length c1] 26, .blk w.heap.size #[.int .i64 m, .slice A os.length c] 26]) (.slice A1 os.length c1) os) := Lib.hid (Hk.out.move (by decide) K')
        replace Hv : Hid (RdSl vE (((W15.setCell ⟨W5.heap.size, 0, none⟩ (.int .i64 mh)).setCell ⟨W5.heap.size, 1, none⟩ (.slice A2 oh.length c2))) (Fr w.heap.size [.blk W5.heap.size #[.int .i64 mh, .slice A2 oh.length c2] 26, .blk W2.heap.size #[.int .i64 m, .slice A1 os.length c1] 26, .blk w.heap.size #[.int .i64 m, .slice A os.length c] 26]) (.slice B1 rs.length d1) rs) := Lib.hid (Hv.out.move (by decide) K')
        replace Ha : Hid (RdSl obE (((W15.setCell ⟨W5.heap.size, 0, none⟩ (.int .i64 mh)).setCell ⟨W5.heap.size, 1, none⟩ (.slice A2 oh.length c2))) (Fr w.heap.size [.blk W5.heap.size #[.int .i64 mh, .slice A2 oh.length c2] 26, .blk W2.heap.size #[.int .i64 m, .slice A1 os.length c1] 26, .blk w.heap.size #[.int .i64 m, .slice A os.length c] 26]) (.slice A2 oh.length c2) oh) := Lib.hid (Ha.out.move (by decide) K')
        replace Hva : Hid (RdSl vE (((W15.setCell ⟨W5.heap.size, 0, none⟩ (.int .i64 mh)).setCell ⟨W5.heap.size, 1, none⟩ (.slice A2 oh.length c2))) (Fr w.heap.size [.blk W5.heap.size #[.int .i64 mh, .slice A2 oh.length c2] 26, .blk W2.heap.size #[.int .i64 m, .slice A1 os.length c1] 26, .blk w.heap.size #[.int .i64 m, .slice A os.length c] 26]) (.slice B2 tv.length d2) tv) := Lib.hid (Hva.out.move (by decide) K')
        clear T' K'
        replace hz : w.heap.size + 1 ≤ (((W15.setCell ⟨W5.heap.size, 0, none⟩ (.int .i64 mh)).setCell ⟨W5.heap.size, 1, none⟩ (.slice A2 oh.length c2))).heap.size := by simpa using hz
        generalize (W15.setCell ⟨W5.heap.size, 0, none⟩ (.int .i64 mh)).setCell ⟨W5.heap.size, 1, none⟩ (.slice A2 oh.length c2) = W16 at *
        obtain ⟨-, -, r_k, q_k, -⟩ := HT.out.rules
        have z_k : W2.heap.size < W16.heap.size := (HT.out.in_ 1 rfl rfl).2
        refine ⟨?_, ?_⟩
        · simp only [Again, pick, List.getElem?_toArray, List.getElem?_cons_succ, List.getElem?_cons_zero]
          refine ⟨?_, ?_, trivial⟩
          all_goals (still_step; exact wpStill_nil rfl)
        refine tr_still ?_
        simp only [pick, List.getElem?_toArray, List.getElem?_cons_succ, List.getElem?_cons_zero]
        repeat still_step
        refine wpStill_nil ?_
        have hP9 := HT.out.perm (R' := [.blk W5.heap.size #[.int .i64 mh, .slice A2 oh.length c2] 26, .blk W2.heap.size #[.int .i64 m, .slice A1 os.length c1] 26, .blk w.heap.size #[.int .i64 m, .slice A os.length c] 26]) (.refl _)
        refine tr_done ?_
        refine ⟨W5.heap.size, A2, B2, c2, d2, hP9.1, Hr.out.move (by decide) hP9.2, Hq.out.move (by decide) hP9.2, Hk.out.move (by decide) hP9.2, Ha.out.move (by decide) hP9.2, Hva.out.move (by decide) hP9.2, hz, ?_⟩
        repeat (apply Exists.intro)
        try simp only [Act.put, List.setIfInBounds_toArray, List.set_cons_succ, List.set_cons_zero]
        rfl
  clear r_k q_k z_k
  intro a9 W4 hR
  obtain ⟨ba, A2, B2, c2, d2, ht, pHr, pHq, pHk, pHa, pHva, nhz, g15, g16, g17, g18, g14, g19, g20, g21, rfl⟩ := hR
  clear HT Hr Hq Hk hz
  have HT := Lib.hid ht
  have Hr : Hid (RdSl obE W4 (Fr 0 [.blk ba #[.int .i64 mh, .slice A2 oh.length c2] 26, .blk W2.heap.size #[.int .i64 m, .slice A1 os.length c1] 26, .blk w.heap.size #[.int .i64 m, .slice A os.length c] 26]) (.slice A os.length c) os) := Lib.hid pHr
  have Hq : Hid (RdSl vE W4 (Fr 0 [.blk ba #[.int .i64 mh, .slice A2 oh.length c2] 26, .blk W2.heap.size #[.int .i64 m, .slice A1 os.length c1] 26, .blk w.heap.size #[.int .i64 m, .slice A os.length c] 26]) (.slice R rs.length d) rs) := Lib.hid pHq
  have Hk : Hid (RdSl obE W4 (Fr w.heap.size [.blk ba #[.int .i64 mh, .slice A2 oh.length c2] 26, .blk W2.heap.size #[.int .i64 m, .slice A1 os.length c1] 26, .blk w.heap.size #[.int .i64 m, .slice A os.length c] 26]) (.slice A1 os.length c1) os) := Lib.hid pHk
  have Ha : Hid (RdSl obE W4 (Fr w.heap.size [.blk ba #[.int .i64 mh, .slice A2 oh.length c2] 26, .blk W2.heap.size #[.int .i64 m, .slice A1 os.length c1] 26, .blk w.heap.size #[.int .i64 m, .slice A os.length c] 26]) (.slice A2 oh.length c2) oh) := Lib.hid pHa
  have Hva : Hid (RdSl vE W4 (Fr w.heap.size [.blk ba #[.int .i64 mh, .slice A2 oh.length c2] 26, .blk W2.heap.size #[.int .i64 m, .slice A1 os.length c1] 26, .blk w.heap.size #[.int .i64 m, .slice A os.length c] 26]) (.slice B2 tv.length d2) tv) := Lib.hid pHva
  have hz := nhz
  clear ht pHr pHq pHk pHa pHva nhz
  try simp only [Act.put, List.setIfInBounds_toArray, List.set_cons_succ, List.set_cons_zero]
  obtain ⟨r_a, q_a, r_k, q_k, r_h, q_h, -⟩ := HT.out.rules
  have z_a : ba < W4.heap.size := (HT.out.in_ 0 rfl rfl).2
  have z_k : W2.heap.size < W4.heap.size := (HT.out.in_ 1 rfl rfl).2
  have z_h : w.heap.size < W4.heap.size := (HT.out.in_ 2 rfl rfl).2
  go_wp2_with fail
  refine (G2.out _ _ _ _ _ _ _ Hr.out Hq.out).mono ?_
  rintro en W17 ⟨u1, B4, d4, rfl, ⟨A4, c4, rfl, hra⟩, hrv, hb⟩
  clear r_a q_a r_k q_k r_h q_h z_a z_k z_h
  have Hfresh := Lib.hid (HT.out)
  have hzo : w.heap.size ≤ W4.heap.size := by omega
  obtain ⟨T', K'⟩ := HT.out.call hb
  replace T' : St w.heap.size w W17 [.blk ba #[.int .i64 mh, .slice A2 oh.length c2] 26, .blk W2.heap.size #[.int .i64 m, .slice A1 os.length c1] 26, .blk w.heap.size #[.int .i64 m, .slice A os.length c] 26] := T'
  replace K' : Keeps W4 [.blk ba #[.int .i64 mh, .slice A2 oh.length c2] 26, .blk W2.heap.size #[.int .i64 m, .slice A1 os.length c1] 26, .blk w.heap.size #[.int .i64 m, .slice A os.length c] 26] W17 [.blk ba #[.int .i64 mh, .slice A2 oh.length c2] 26, .blk W2.heap.size #[.int .i64 m, .slice A1 os.length c1] 26, .blk w.heap.size #[.int .i64 m, .slice A os.length c] 26] := K'
  replace HT := Lib.hid T'
  replace Hr : Hid (RdSl obE W17 (Fr 0 [.blk ba #[.int .i64 mh, .slice A2 oh.length c2] 26, .blk W2.heap.size #[.int .i64 m, .slice A1 os.length c1] 26, .blk w.heap.size #[.int .i64 m, .slice A os.length c] 26]) (.slice A os.length c) os) := Lib.hid (Hr.out.move (by decide) K')
  replace Hq : Hid (RdSl vE W17 (Fr 0 [.blk ba #[.int .i64 mh, .slice A2 oh.length c2] 26, .blk W2.heap.size #[.int .i64 m, .slice A1 os.length c1] 26, .blk w.heap.size #[.int .i64 m, .slice A os.length c] 26]) (.slice R rs.length d) rs) := Lib.hid (Hq.out.move (by decide) K')
  replace Hk : Hid (RdSl obE W17 (Fr w.heap.size [.blk ba #[.int .i64 mh, .slice A2 oh.length c2] 26, .blk W2.heap.size #[.int .i64 m, .slice A1 os.length c1] 26, .blk w.heap.size #[.int .i64 m, .slice A os.length c] 26]) (.slice A1 os.length c1) os) := Lib.hid (Hk.out.move (by decide) K')
  replace Ha : Hid (RdSl obE W17 (Fr w.heap.size [.blk ba #[.int .i64 mh, .slice A2 oh.length c2] 26, .blk W2.heap.size #[.int .i64 m, .slice A1 os.length c1] 26, .blk w.heap.size #[.int .i64 m, .slice A os.length c] 26]) (.slice A2 oh.length c2) oh) := Lib.hid (Ha.out.move (by decide) K')
  replace Hva : Hid (RdSl vE W17 (Fr w.heap.size [.blk ba #[.int .i64 mh, .slice A2 oh.length c2] 26, .blk W2.heap.size #[.int .i64 m, .slice A1 os.length c1] 26, .blk w.heap.size #[.int .i64 m, .slice A os.length c] 26]) (.slice B2 tv.length d2) tv) := Lib.hid (Hva.out.move (by decide) K')
  clear T' K'
  replace hz : w.heap.size + 1 ≤ W17.heap.size := Nat.le_trans hz hb.size
  clear hb
  have Hb : Hid (RdSl obE W17 (Fr w.heap.size [.blk ba #[.int .i64 mh, .slice A2 oh.length c2] 26, .blk W2.heap.size #[.int .i64 m, .slice A1 os.length c1] 26, .blk w.heap.size #[.int .i64 m, .slice A os.length c] 26]) (.slice A4 oh.length c4) oh) := Lib.hid (hra.fresh (by first | decide | (show 0 < 1; omega)) Hfresh.out hzo)
  clear hra
  have Hvb : Hid (RdSl vE W17 (Fr w.heap.size [.blk ba #[.int .i64 mh, .slice A2 oh.length c2] 26, .blk W2.heap.size #[.int .i64 m, .slice A1 os.length c1] 26, .blk w.heap.size #[.int .i64 m, .slice A os.length c] 26]) (.slice B4 tv.length d4) tv) := Lib.hid (hrv.fresh (by first | decide | (show 0 < 1; omega)) Hfresh.out hzo)
  clear hrv
  clear Hfresh hzo
  obtain ⟨r_a, q_a, r_k, q_k, r_h, q_h, -⟩ := HT.out.rules
  have z_a : ba < W17.heap.size := (HT.out.in_ 0 rfl rfl).2
  have z_k : W2.heap.size < W17.heap.size := (HT.out.in_ 1 rfl rfl).2
  have z_h : w.heap.size < W17.heap.size := (HT.out.in_ 2 rfl rfl).2
  go_upto_region 4 with fail
  obtain ⟨T', K'⟩ := HT.out.new' #[.int .i64 mh, .slice A4 oh.length c4] 26 W17.heap.size (by first | (simp; done) | rfl)
  replace T' : St w.heap.size w ((W17.alloc (.cells #[.int .i64 mh, .slice A4 oh.length c4] 26))) [.blk W17.heap.size #[.int .i64 mh, .slice A4 oh.length c4] 26, .blk ba #[.int .i64 mh, .slice A2 oh.length c2] 26, .blk W2.heap.size #[.int .i64 m, .slice A1 os.length c1] 26, .blk w.heap.size #[.int .i64 m, .slice A os.length c] 26] := T'
  replace K' : Keeps W17 [.blk ba #[.int .i64 mh, .slice A2 oh.length c2] 26, .blk W2.heap.size #[.int .i64 m, .slice A1 os.length c1] 26, .blk w.heap.size #[.int .i64 m, .slice A os.length c] 26] ((W17.alloc (.cells #[.int .i64 mh, .slice A4 oh.length c4] 26))) [.blk W17.heap.size #[.int .i64 mh, .slice A4 oh.length c4] 26, .blk ba #[.int .i64 mh, .slice A2 oh.length c2] 26, .blk W2.heap.size #[.int .i64 m, .slice A1 os.length c1] 26, .blk w.heap.size #[.int .i64 m, .slice A os.length c] 26] := K'
  replace HT := Lib.hid T'
  replace Hr : Hid (RdSl obE ((W17.alloc (.cells #[.int .i64 mh, .slice A4 oh.length c4] 26))) (Fr 0 [.blk W17.heap.size #[.int .i64 mh, .slice A4 oh.length c4] 26, .blk ba #[.int .i64 mh, .slice A2 oh.length c2] 26, .blk W2.heap.size #[.int .i64 m, .slice A1 os.length c1] 26, .blk w.heap.size #[.int .i64 m, .slice A os.length c] 26]) (.slice A os.length c) os) := Lib.hid (Hr.out.move (by decide) K')
  replace Hq : Hid (RdSl vE ((W17.alloc (.cells #[.int .i64 mh, .slice A4 oh.length c4] 26))) (Fr 0 [.blk W17.heap.size #[.int .i64 mh, .slice A4 oh.length c4] 26, .blk ba #[.int .i64 mh, .slice A2 oh.length c2] 26, .blk W2.heap.size #[.int .i64 m, .slice A1 os.length c1] 26, .blk w.heap.size #[.int .i64 m, .slice A os.length c] 26]) (.slice R rs.length d) rs) := Lib.hid (Hq.out.move (by decide) K')
  replace Hk : Hid (RdSl obE ((W17.alloc (.cells #[.int .i64 mh, .slice A4 oh.length c4] 26))) (Fr w.heap.size [.blk W17.heap.size #[.int .i64 mh, .slice A4 oh.length c4] 26, .blk ba #[.int .i64 mh, .slice A2 oh.length c2] 26, .blk W2.heap.size #[.int .i64 m, .slice A1 os.length c1] 26, .blk w.heap.size #[.int .i64 m, .slice A os.length c] 26]) (.slice A1 os.length c1) os) := Lib.hid (Hk.out.move (by decide) K')
  replace Ha : Hid (RdSl obE ((W17.alloc (.cells #[.int .i64 mh, .slice A4 oh.length c4] 26))) (Fr w.heap.size [.blk W17.heap.size #[.int .i64 mh, .slice A4 oh.length c4] 26, .blk ba #[.int .i64 mh, .slice A2 oh.length c2] 26, .blk W2.heap.size #[.int .i64 m, .slice A1 os.length c1] 26, .blk w.heap.size #[.int .i64 m, .slice A os.length c] 26]) (.slice A2 oh.length c2) oh) := Lib.hid (Ha.out.move (by decide) K')
  replace Hva : Hid (RdSl vE ((W17.alloc (.cells #[.int .i64 mh, .slice A4 oh.length c4] 26))) (Fr w.heap.size [.blk W17.heap.size #[.int .i64 mh, .slice A4 oh.length c4] 26, .blk ba #[.int .i64 mh, .slice A2 oh.length c2] 26, .blk W2.heap.size #[.int .i64 m, .slice A1 os.length c1] 26, .blk w.heap.size #[.int .i64 m, .slice A os.length c] 26]) (.slice B2 tv.length d2) tv) := Lib.hid (Hva.out.move (by decide) K')
  replace Hb : Hid (RdSl obE ((W17.alloc (.cells #[.int .i64 mh, .slice A4 oh.length c4] 26))) (Fr w.heap.size [.blk W17.heap.size #[.int .i64 mh, .slice A4 oh.length c4] 26, .blk ba #[.int .i64 mh, .slice A2 oh.length c2] 26, .blk W2.heap.size #[.int .i64 m, .slice A1 os.length c1] 26, .blk w.heap.size #[.int .i64 m, .slice A os.length c] 26]) (.slice A4 oh.length c4) oh) := Lib.hid (Hb.out.move (by decide) K')
  replace Hvb : Hid (RdSl vE ((W17.alloc (.cells #[.int .i64 mh, .slice A4 oh.length c4] 26))) (Fr w.heap.size [.blk W17.heap.size #[.int .i64 mh, .slice A4 oh.length c4] 26, .blk ba #[.int .i64 mh, .slice A2 oh.length c2] 26, .blk W2.heap.size #[.int .i64 m, .slice A1 os.length c1] 26, .blk w.heap.size #[.int .i64 m, .slice A os.length c] 26]) (.slice B4 tv.length d4) tv) := Lib.hid (Hvb.out.move (by decide) K')
  clear T' K'
  replace hz : w.heap.size + 1 ≤ ((W17.alloc (.cells #[.int .i64 mh, .slice A4 oh.length c4] 26))).heap.size := Nat.le_trans hz (by simp)
  clear r_a q_a r_k q_k r_h q_h z_a z_k z_h
  generalize (W17.alloc (.cells #[.int .i64 mh, .slice A4 oh.length c4] 26)) = W18 at *
  obtain ⟨r_b, q_b, r_a, q_a, r_k, q_k, r_h, q_h, -⟩ := HT.out.rules
  have z_b : W17.heap.size < W18.heap.size := (HT.out.in_ 0 rfl rfl).2
  have z_a : ba < W18.heap.size := (HT.out.in_ 1 rfl rfl).2
  have z_k : W2.heap.size < W18.heap.size := (HT.out.in_ 2 rfl rfl).2
  have z_h : w.heap.size < W18.heap.size := (HT.out.in_ 3 rfl rfl).2
  go_wp2_with fail
  refine (sameHeap_eq mh _ _ _ _ _ _ oh _ Ha.out Hb.out).mono ?_
  rintro en W19 ⟨rfl, hb⟩
  clear r_b q_b r_a q_a r_k q_k r_h q_h z_b z_a z_k z_h
  obtain ⟨T', K'⟩ := HT.out.call hb
  replace T' : St w.heap.size w W19 [.blk W17.heap.size #[.int .i64 mh, .slice A4 oh.length c4] 26, .blk ba #[.int .i64 mh, .slice A2 oh.length c2] 26, .blk W2.heap.size #[.int .i64 m, .slice A1 os.length c1] 26, .blk w.heap.size #[.int .i64 m, .slice A os.length c] 26] := T'
  replace K' : Keeps W18 [.blk W17.heap.size #[.int .i64 mh, .slice A4 oh.length c4] 26, .blk ba #[.int .i64 mh, .slice A2 oh.length c2] 26, .blk W2.heap.size #[.int .i64 m, .slice A1 os.length c1] 26, .blk w.heap.size #[.int .i64 m, .slice A os.length c] 26] W19 [.blk W17.heap.size #[.int .i64 mh, .slice A4 oh.length c4] 26, .blk ba #[.int .i64 mh, .slice A2 oh.length c2] 26, .blk W2.heap.size #[.int .i64 m, .slice A1 os.length c1] 26, .blk w.heap.size #[.int .i64 m, .slice A os.length c] 26] := K'
  replace HT := Lib.hid T'
  replace Hr : Hid (RdSl obE W19 (Fr 0 [.blk W17.heap.size #[.int .i64 mh, .slice A4 oh.length c4] 26, .blk ba #[.int .i64 mh, .slice A2 oh.length c2] 26, .blk W2.heap.size #[.int .i64 m, .slice A1 os.length c1] 26, .blk w.heap.size #[.int .i64 m, .slice A os.length c] 26]) (.slice A os.length c) os) := Lib.hid (Hr.out.move (by decide) K')
  replace Hq : Hid (RdSl vE W19 (Fr 0 [.blk W17.heap.size #[.int .i64 mh, .slice A4 oh.length c4] 26, .blk ba #[.int .i64 mh, .slice A2 oh.length c2] 26, .blk W2.heap.size #[.int .i64 m, .slice A1 os.length c1] 26, .blk w.heap.size #[.int .i64 m, .slice A os.length c] 26]) (.slice R rs.length d) rs) := Lib.hid (Hq.out.move (by decide) K')
  replace Hk : Hid (RdSl obE W19 (Fr w.heap.size [.blk W17.heap.size #[.int .i64 mh, .slice A4 oh.length c4] 26, .blk ba #[.int .i64 mh, .slice A2 oh.length c2] 26, .blk W2.heap.size #[.int .i64 m, .slice A1 os.length c1] 26, .blk w.heap.size #[.int .i64 m, .slice A os.length c] 26]) (.slice A1 os.length c1) os) := Lib.hid (Hk.out.move (by decide) K')
  replace Ha : Hid (RdSl obE W19 (Fr w.heap.size [.blk W17.heap.size #[.int .i64 mh, .slice A4 oh.length c4] 26, .blk ba #[.int .i64 mh, .slice A2 oh.length c2] 26, .blk W2.heap.size #[.int .i64 m, .slice A1 os.length c1] 26, .blk w.heap.size #[.int .i64 m, .slice A os.length c] 26]) (.slice A2 oh.length c2) oh) := Lib.hid (Ha.out.move (by decide) K')
  replace Hva : Hid (RdSl vE W19 (Fr w.heap.size [.blk W17.heap.size #[.int .i64 mh, .slice A4 oh.length c4] 26, .blk ba #[.int .i64 mh, .slice A2 oh.length c2] 26, .blk W2.heap.size #[.int .i64 m, .slice A1 os.length c1] 26, .blk w.heap.size #[.int .i64 m, .slice A os.length c] 26]) (.slice B2 tv.length d2) tv) := Lib.hid (Hva.out.move (by decide) K')
  replace Hb : Hid (RdSl obE W19 (Fr w.heap.size [.blk W17.heap.size #[.int .i64 mh, .slice A4 oh.length c4] 26, .blk ba #[.int .i64 mh, .slice A2 oh.length c2] 26, .blk W2.heap.size #[.int .i64 m, .slice A1 os.length c1] 26, .blk w.heap.size #[.int .i64 m, .slice A os.length c] 26]) (.slice A4 oh.length c4) oh) := Lib.hid (Hb.out.move (by decide) K')
  replace Hvb : Hid (RdSl vE W19 (Fr w.heap.size [.blk W17.heap.size #[.int .i64 mh, .slice A4 oh.length c4] 26, .blk ba #[.int .i64 mh, .slice A2 oh.length c2] 26, .blk W2.heap.size #[.int .i64 m, .slice A1 os.length c1] 26, .blk w.heap.size #[.int .i64 m, .slice A os.length c] 26]) (.slice B4 tv.length d4) tv) := Lib.hid (Hvb.out.move (by decide) K')
  clear T' K'
  replace hz : w.heap.size + 1 ≤ W19.heap.size := Nat.le_trans hz hb.size
  clear hb
  obtain ⟨r_b, q_b, r_a, q_a, r_k, q_k, r_h, q_h, -⟩ := HT.out.rules
  have z_b : W17.heap.size < W19.heap.size := (HT.out.in_ 0 rfl rfl).2
  have z_a : ba < W19.heap.size := (HT.out.in_ 1 rfl rfl).2
  have z_k : W2.heap.size < W19.heap.size := (HT.out.in_ 2 rfl rfl).2
  have z_h : w.heap.size < W19.heap.size := (HT.out.in_ 3 rfl rfl).2
  go_wp2_with fail
  refine (sameValues_eq _ _ _ _ _ _ tv _ Hva.out Hvb.out).mono ?_
  rintro en W' ⟨rfl, qn, rfl⟩
  clear r_b q_b r_a q_a r_k q_k r_h q_h z_b z_a z_k z_h
  obtain ⟨T', K'⟩ := HT.out.drewN9 qn
  replace T' : St w.heap.size w ((W19.drewN qn)) [.blk W17.heap.size #[.int .i64 mh, .slice A4 oh.length c4] 26, .blk ba #[.int .i64 mh, .slice A2 oh.length c2] 26, .blk W2.heap.size #[.int .i64 m, .slice A1 os.length c1] 26, .blk w.heap.size #[.int .i64 m, .slice A os.length c] 26] := T'
  replace K' : Keeps W19 [.blk W17.heap.size #[.int .i64 mh, .slice A4 oh.length c4] 26, .blk ba #[.int .i64 mh, .slice A2 oh.length c2] 26, .blk W2.heap.size #[.int .i64 m, .slice A1 os.length c1] 26, .blk w.heap.size #[.int .i64 m, .slice A os.length c] 26] ((W19.drewN qn)) [.blk W17.heap.size #[.int .i64 mh, .slice A4 oh.length c4] 26, .blk ba #[.int .i64 mh, .slice A2 oh.length c2] 26, .blk W2.heap.size #[.int .i64 m, .slice A1 os.length c1] 26, .blk w.heap.size #[.int .i64 m, .slice A os.length c] 26] := K'
  replace HT := Lib.hid T'
  replace Hr : Hid (RdSl obE ((W19.drewN qn)) (Fr 0 [.blk W17.heap.size #[.int .i64 mh, .slice A4 oh.length c4] 26, .blk ba #[.int .i64 mh, .slice A2 oh.length c2] 26, .blk W2.heap.size #[.int .i64 m, .slice A1 os.length c1] 26, .blk w.heap.size #[.int .i64 m, .slice A os.length c] 26]) (.slice A os.length c) os) := Lib.hid (Hr.out.move (by decide) K')
  replace Hq : Hid (RdSl vE ((W19.drewN qn)) (Fr 0 [.blk W17.heap.size #[.int .i64 mh, .slice A4 oh.length c4] 26, .blk ba #[.int .i64 mh, .slice A2 oh.length c2] 26, .blk W2.heap.size #[.int .i64 m, .slice A1 os.length c1] 26, .blk w.heap.size #[.int .i64 m, .slice A os.length c] 26]) (.slice R rs.length d) rs) := Lib.hid (Hq.out.move (by decide) K')
  replace Hk : Hid (RdSl obE ((W19.drewN qn)) (Fr w.heap.size [.blk W17.heap.size #[.int .i64 mh, .slice A4 oh.length c4] 26, .blk ba #[.int .i64 mh, .slice A2 oh.length c2] 26, .blk W2.heap.size #[.int .i64 m, .slice A1 os.length c1] 26, .blk w.heap.size #[.int .i64 m, .slice A os.length c] 26]) (.slice A1 os.length c1) os) := Lib.hid (Hk.out.move (by decide) K')
  replace Ha : Hid (RdSl obE ((W19.drewN qn)) (Fr w.heap.size [.blk W17.heap.size #[.int .i64 mh, .slice A4 oh.length c4] 26, .blk ba #[.int .i64 mh, .slice A2 oh.length c2] 26, .blk W2.heap.size #[.int .i64 m, .slice A1 os.length c1] 26, .blk w.heap.size #[.int .i64 m, .slice A os.length c] 26]) (.slice A2 oh.length c2) oh) := Lib.hid (Ha.out.move (by decide) K')
  replace Hva : Hid (RdSl vE ((W19.drewN qn)) (Fr w.heap.size [.blk W17.heap.size #[.int .i64 mh, .slice A4 oh.length c4] 26, .blk ba #[.int .i64 mh, .slice A2 oh.length c2] 26, .blk W2.heap.size #[.int .i64 m, .slice A1 os.length c1] 26, .blk w.heap.size #[.int .i64 m, .slice A os.length c] 26]) (.slice B2 tv.length d2) tv) := Lib.hid (Hva.out.move (by decide) K')
  replace Hb : Hid (RdSl obE ((W19.drewN qn)) (Fr w.heap.size [.blk W17.heap.size #[.int .i64 mh, .slice A4 oh.length c4] 26, .blk ba #[.int .i64 mh, .slice A2 oh.length c2] 26, .blk W2.heap.size #[.int .i64 m, .slice A1 os.length c1] 26, .blk w.heap.size #[.int .i64 m, .slice A os.length c] 26]) (.slice A4 oh.length c4) oh) := Lib.hid (Hb.out.move (by decide) K')
  replace Hvb : Hid (RdSl vE ((W19.drewN qn)) (Fr w.heap.size [.blk W17.heap.size #[.int .i64 mh, .slice A4 oh.length c4] 26, .blk ba #[.int .i64 mh, .slice A2 oh.length c2] 26, .blk W2.heap.size #[.int .i64 m, .slice A1 os.length c1] 26, .blk w.heap.size #[.int .i64 m, .slice A os.length c] 26]) (.slice B4 tv.length d4) tv) := Lib.hid (Hvb.out.move (by decide) K')
  clear T' K'
  replace hz : w.heap.size + 1 ≤ ((W19.drewN qn)).heap.size := hz
  generalize (W19.drewN qn) = W20 at *
  obtain ⟨r_b, q_b, r_a, q_a, r_k, q_k, r_h, q_h, -⟩ := HT.out.rules
  have z_b : W17.heap.size < W20.heap.size := (HT.out.in_ 0 rfl rfl).2
  have z_a : ba < W20.heap.size := (HT.out.in_ 1 rfl rfl).2
  have z_k : W2.heap.size < W20.heap.size := (HT.out.in_ 2 rfl rfl).2
  have z_h : w.heap.size < W20.heap.size := (HT.out.in_ 3 rfl rfl).2
  go_wp2_with fail
  refine (sameHeap_eq m _ _ _ _ _ _ os _ Hk.out Hr.out).mono ?_
  rintro en W21 ⟨rfl, hb⟩
  clear r_b q_b r_a q_a r_k q_k r_h q_h z_b z_a z_k z_h
  obtain ⟨T', K'⟩ := HT.out.call hb
  replace T' : St w.heap.size w W21 [.blk W17.heap.size #[.int .i64 mh, .slice A4 oh.length c4] 26, .blk ba #[.int .i64 mh, .slice A2 oh.length c2] 26, .blk W2.heap.size #[.int .i64 m, .slice A1 os.length c1] 26, .blk w.heap.size #[.int .i64 m, .slice A os.length c] 26] := T'
  replace K' : Keeps W20 [.blk W17.heap.size #[.int .i64 mh, .slice A4 oh.length c4] 26, .blk ba #[.int .i64 mh, .slice A2 oh.length c2] 26, .blk W2.heap.size #[.int .i64 m, .slice A1 os.length c1] 26, .blk w.heap.size #[.int .i64 m, .slice A os.length c] 26] W21 [.blk W17.heap.size #[.int .i64 mh, .slice A4 oh.length c4] 26, .blk ba #[.int .i64 mh, .slice A2 oh.length c2] 26, .blk W2.heap.size #[.int .i64 m, .slice A1 os.length c1] 26, .blk w.heap.size #[.int .i64 m, .slice A os.length c] 26] := K'
  replace HT := Lib.hid T'
  replace Hr : Hid (RdSl obE W21 (Fr 0 [.blk W17.heap.size #[.int .i64 mh, .slice A4 oh.length c4] 26, .blk ba #[.int .i64 mh, .slice A2 oh.length c2] 26, .blk W2.heap.size #[.int .i64 m, .slice A1 os.length c1] 26, .blk w.heap.size #[.int .i64 m, .slice A os.length c] 26]) (.slice A os.length c) os) := Lib.hid (Hr.out.move (by decide) K')
  replace Hq : Hid (RdSl vE W21 (Fr 0 [.blk W17.heap.size #[.int .i64 mh, .slice A4 oh.length c4] 26, .blk ba #[.int .i64 mh, .slice A2 oh.length c2] 26, .blk W2.heap.size #[.int .i64 m, .slice A1 os.length c1] 26, .blk w.heap.size #[.int .i64 m, .slice A os.length c] 26]) (.slice R rs.length d) rs) := Lib.hid (Hq.out.move (by decide) K')
  replace Hk : Hid (RdSl obE W21 (Fr w.heap.size [.blk W17.heap.size #[.int .i64 mh, .slice A4 oh.length c4] 26, .blk ba #[.int .i64 mh, .slice A2 oh.length c2] 26, .blk W2.heap.size #[.int .i64 m, .slice A1 os.length c1] 26, .blk w.heap.size #[.int .i64 m, .slice A os.length c] 26]) (.slice A1 os.length c1) os) := Lib.hid (Hk.out.move (by decide) K')
  replace Ha : Hid (RdSl obE W21 (Fr w.heap.size [.blk W17.heap.size #[.int .i64 mh, .slice A4 oh.length c4] 26, .blk ba #[.int .i64 mh, .slice A2 oh.length c2] 26, .blk W2.heap.size #[.int .i64 m, .slice A1 os.length c1] 26, .blk w.heap.size #[.int .i64 m, .slice A os.length c] 26]) (.slice A2 oh.length c2) oh) := Lib.hid (Ha.out.move (by decide) K')
  replace Hva : Hid (RdSl vE W21 (Fr w.heap.size [.blk W17.heap.size #[.int .i64 mh, .slice A4 oh.length c4] 26, .blk ba #[.int .i64 mh, .slice A2 oh.length c2] 26, .blk W2.heap.size #[.int .i64 m, .slice A1 os.length c1] 26, .blk w.heap.size #[.int .i64 m, .slice A os.length c] 26]) (.slice B2 tv.length d2) tv) := Lib.hid (Hva.out.move (by decide) K')
  replace Hb : Hid (RdSl obE W21 (Fr w.heap.size [.blk W17.heap.size #[.int .i64 mh, .slice A4 oh.length c4] 26, .blk ba #[.int .i64 mh, .slice A2 oh.length c2] 26, .blk W2.heap.size #[.int .i64 m, .slice A1 os.length c1] 26, .blk w.heap.size #[.int .i64 m, .slice A os.length c] 26]) (.slice A4 oh.length c4) oh) := Lib.hid (Hb.out.move (by decide) K')
  replace Hvb : Hid (RdSl vE W21 (Fr w.heap.size [.blk W17.heap.size #[.int .i64 mh, .slice A4 oh.length c4] 26, .blk ba #[.int .i64 mh, .slice A2 oh.length c2] 26, .blk W2.heap.size #[.int .i64 m, .slice A1 os.length c1] 26, .blk w.heap.size #[.int .i64 m, .slice A os.length c] 26]) (.slice B4 tv.length d4) tv) := Lib.hid (Hvb.out.move (by decide) K')
  clear T' K'
  replace hz : w.heap.size + 1 ≤ W21.heap.size := Nat.le_trans hz hb.size
  clear hb
  obtain ⟨r_b, q_b, r_a, q_a, r_k, q_k, r_h, q_h, -⟩ := HT.out.rules
  have z_b : W17.heap.size < W21.heap.size := (HT.out.in_ 0 rfl rfl).2
  have z_a : ba < W21.heap.size := (HT.out.in_ 1 rfl rfl).2
  have z_k : W2.heap.size < W21.heap.size := (HT.out.in_ 2 rfl rfl).2
  have z_h : w.heap.size < W21.heap.size := (HT.out.in_ 3 rfl rfl).2
  go_wp2_with fail
  go_ret
  exact ⟨rfl, HT.out.below⟩

theorem lifted (os : Os) (started : os.Started) (H : Type) (enc : TypeId × Value → H) :
    ReturnsInHanded {} Try.checked os 8 .any (Rows.heapCollectsSpec.pre6 enc Try.prog Try.f8 Rows.heapCollectsRow.domain false) (Rows.heapCollectsSpec.post enc Try.prog Try.f8 false true false false) := by
  refine returnsInHanded_of_change_sized (C := Try.checked) own started (by kernel_rfl) Try.func8
    (ChangeSpec.witness6 (enc := enc) (C := Try.checked) false ⟨#[], #[.agg #[.int .i64 0, .slice none 0 0], .slice none 0 0], []⟩ 8 (by kernel_rfl) (by kernel_rfl) (by kernel_rfl) (by kernel_rfl)) ?_
  intro W base args ds gs before hval0 hW _ hsz0 _
  have hval : ∀ (j : Nat) t v, Try.f8.params[j]? = some t → args[j]? = some v → Value.okWide Try.prog W .any base t v := hval0
  have hsz : (DataW.weightsEach Try.prog (Try.f8.params.toList ++ Rows.heapCollectsSpec.plain.varTypes Try.prog) (ds ++ gs)).all (· ≤ reachBytes) = true := hsz0
  have hW' := hW
  obtain ⟨p, q, hA0, hV, rfl, hfz, hnd⟩ := hW
  have hA : DataW.TrodAll enc Try.prog W 0 (fun _ => true) true Try.f8.params.toList args.toList ds p := hA0
  rw [Try.params8] at hA hval hsz
  obtain ⟨v0, vs0, d0, ds0, p0, q0, hargs, rfl, rfl, h0, r0⟩ := trodAll_cons hA
  obtain ⟨v1, vs1, d1, ds1, p1, q1, rfl, rfl, rfl, h1, r1⟩ := trodAll_cons r0
  obtain ⟨rfl, rfl, rfl⟩ := trodAll_nil r1
  obtain rfl : args = #[v0, v1] := by cases args; simp_all
  obtain ⟨rfl, rfl⟩ := trodVars_none hV
  obtain ⟨m0, x0, A0, c0, rfl, y0⟩ := arg_hp h0 (hval 0 26 v0 rfl rfl) (sized_at hsz (j := 0) rfl rfl)
  obtain ⟨x1, A1, c1, rfl, y1⟩ := arg_vs h1 (hval 1 27 v1 rfl rfl) (sized_at hsz (j := 1) rfl rfl)
  clear hA0 hval0 hsz0
  refine (walk W m0 x0 A0 c0 y0 x1 A1 c1 y1).mono fun e W' ⟨he, hb⟩ => ?_
  subst he
  exact ⟨_, rfl, law_post (tb := 4) laidOut Try.underlying4 (by kernel_rfl) (by rw [Try.params8]; exact all_types (by kernel_rfl)) rfl hW' rfl hb⟩

theorem closed : joinedFacts Try.prog 8 Try.f8 Rows.heapCollectsSpec Rows.heapCollectsRow = true :=
  facts_of (by kernel_rfl) laidOut fact_rowed (by kernel_rfl) (by kernel_rfl) (by kernel_rfl) fact_stops (by kernel_rfl) fact_knobs (by kernel_rfl) (by kernel_rfl) (by kernel_rfl) (by kernel_rfl) (by kernel_rfl) (by kernel_rfl) (by kernel_rfl) (by kernel_rfl) (by kernel_rfl) (by kernel_rfl) (by kernel_rfl) (by kernel_rfl) (by kernel_rfl) (by kernel_rfl) (by kernel_rfl) fact_heard fact_may (by rw [fact_lifts]; rfl) fact_make ⟨rfl, rfl⟩ (by kernel_rfl) (by kernel_rfl) (by kernel_rfl)
theorem over : Rows.heapCollectsRow.holds Try.pinned (OpenSpec.ofChange Rows.heapCollectsSpec) :=
  OpenClaim.holds_of_wide 8 Try.f8 rfl rfl rfl rfl rfl rfl rfl ⟨rfl, rfl, rfl, rfl, rfl⟩ rfl rfl rfl rfl rfl (by kernel_rfl) Try.func8 closed
    (of_decide_eq_true (by kernel_rfl)) (by unfold Func.isWrapper; first | (rw [if_pos (by decide +kernel)]; kernel_rfl) | (rw [if_neg (by decide +kernel)]; exact ⟨rfl, rfl⟩))
    (fun os started H enc _ => lifted os started H enc)
/-- THE STATEMENT. -/
theorem proved : Rows.HeapCollectsSaid := over
#print axioms proved
end Go.Proofs.Ytfafnjkinolkmaa.lawHeapCollects
