/- The walk of treadwheelkeep.Form's own closure: a value is told. Condition: where its variables lie. -/
import Derived.Test.YtabcjdalifhpdaaMapW
import Derived.Test.YtabcjdalifhpdaaReach
import Derived.Test.YtabcjdalifhpdaaStD
import Derived.Test.YtabcjdalifhpdaaStA
namespace Go.Proofs.Ytabcjdalifhpdaa
open Go.RowKit Go.Maps

theorem ics_snoc (l : List Int) (x : Int) : ics l ++ [[.int .i64 x]] = ics (l ++ [x]) := by simp [ics]
/-- The objects that are come to, and what is told, behind a value. -/
def sayQ (ord : List Int) (v : V) : List Int := if v.k = 2 ∧ v.n ∉ ord then ord ++ [v.n] else ord
def sayO (out ord : List Int) (v : V) : List Int := if v.k = 2 then out ++ [2, plM 0 (sayQ ord v) v.n] else out ++ [v.k, v.n]
set_option maxRecDepth 100000 in
set_option maxHeartbeats 4000000 in
theorem say_any (B : Nat) (w0 w : World) (R0 : List Res) (bo bp bq mb : Nat) (Ao Aq : Option Addr) (co cq : Nat) (out ord : List Int) (v : V) (hv : v.k = 2 → 0 ≤ v.n ∧ v.n < 60) (_ho : out.length ≤ 100000) (_hq : ord.length ≤ 60) (h : St B w0 w (.blk bo #[.slice Ao out.length co] 32 :: .row B 3 1 (.slice Ao out.length co) out.length (cat (ics out)) :: .blk bp #[.map (some mb)] 61 :: mapRW Try.prog 3 3 (.int .i64 0) mb ord (fun x => .int .i64 (plM 0 ord x)) :: .blk bq #[.slice Aq ord.length cq] 32 :: .row B 3 1 (.slice Aq ord.length cq) ord.length (cat (ics ord)) :: R0)) :
    Calls Try.prog 24 #[.agg #[.int .i64 v.k, .int .i64 v.n], .pointer (some ⟨bo, 0, none⟩), .pointer (some ⟨bp, 0, none⟩), .pointer (some ⟨bq, 0, none⟩)] w fun e w' => e = .returned (.tuple #[]) ∧ ∃ Ao' co' Aq' cq', St B w0 w' (.blk bo #[.slice Ao' (sayO out ord v).length co'] 32 :: .row B 3 1 (.slice Ao' (sayO out ord v).length co') ((sayO out ord v).length) (cat (ics (sayO out ord v))) :: .blk bp #[.map (some mb)] 61 :: mapRW Try.prog 3 3 (.int .i64 0) mb (sayQ ord v) (fun x => .int .i64 (plM 0 (sayQ ord v) x)) :: .blk bq #[.slice Aq' (sayQ ord v).length cq'] 32 :: .row B 3 1 (.slice Aq' (sayQ ord v).length cq') ((sayQ ord v).length) (cat (ics (sayQ ord v))) :: R0) ∧ Keeps w (.blk bo #[.slice Ao out.length co] 32 :: .row B 3 1 (.slice Ao out.length co) out.length (cat (ics out)) :: .blk bp #[.map (some mb)] 61 :: mapRW Try.prog 3 3 (.int .i64 0) mb ord (fun x => .int .i64 (plM 0 ord x)) :: .blk bq #[.slice Aq ord.length cq] 32 :: .row B 3 1 (.slice Aq ord.length cq) ord.length (cat (ics ord)) :: R0) w' (.blk bo #[.slice Ao' (sayO out ord v).length co'] 32 :: .row B 3 1 (.slice Ao' (sayO out ord v).length co') ((sayO out ord v).length) (cat (ics (sayO out ord v))) :: .blk bp #[.map (some mb)] 61 :: mapRW Try.prog 3 3 (.int .i64 0) mb (sayQ ord v) (fun x => .int .i64 (plM 0 (sayQ ord v) x)) :: .blk bq #[.slice Aq' (sayQ ord v).length cq'] 32 :: .row B 3 1 (.slice Aq' (sayQ ord v).length cq') ((sayQ ord v).length) (cat (ics (sayQ ord v))) :: R0) ∧ w.heap.size ≤ w'.heap.size := by
  have HT := Lib.hid h
  have hz : w.heap.size ≤ w.heap.size := Nat.le_refl _
  have HK : Hid (Keeps w (.blk bo #[.slice Ao out.length co] 32 :: .row B 3 1 (.slice Ao out.length co) out.length (cat (ics out)) :: .blk bp #[.map (some mb)] 61 :: mapRW Try.prog 3 3 (.int .i64 0) mb ord (fun x => .int .i64 (plM 0 ord x)) :: .blk bq #[.slice Aq ord.length cq] 32 :: .row B 3 1 (.slice Aq ord.length cq) ord.length (cat (ics ord)) :: R0) w (.blk bo #[.slice Ao out.length co] 32 :: .row B 3 1 (.slice Ao out.length co) out.length (cat (ics out)) :: .blk bp #[.map (some mb)] 61 :: mapRW Try.prog 3 3 (.int .i64 0) mb ord (fun x => .int .i64 (plM 0 ord x)) :: .blk bq #[.slice Aq ord.length cq] 32 :: .row B 3 1 (.slice Aq ord.length cq) ord.length (cat (ics ord)) :: R0)) := Lib.hid Keeps.refl
  clear h
  obtain ⟨T', K'⟩ := HT.out.new' #[.int .i64 v.k, .int .i64 v.n] 30 w.heap.size (by first | (simp; done) | rfl)
  replace HT := Lib.hid T'
  replace HK := Lib.hid (HK.out.trans (by omega) K')
  clear T' K'
  replace hz : w.heap.size ≤ ((w.alloc (.cells #[.int .i64 v.k, .int .i64 v.n] 30))).heap.size := Nat.le_trans hz (by simp)
  go_enter Try.func24, Try.ntmps24
  go_upto_region 1 with fail
  generalize (w.alloc (.cells #[.int .i64 v.k, .int .i64 v.n] 30)) = W1 at *
  obtain ⟨r_v, q_v, r_bo, q_bo, r_bp, q_bp, r_bq, q_bq, -⟩ := HT.out.rules
  have z_v : w.heap.size < W1.heap.size := (HT.out.in_ 0 rfl rfl).2
  have z_bo : bo < W1.heap.size := (HT.out.in_ 1 rfl rfl).2
  have z_bp : bp < W1.heap.size := (HT.out.in_ 3 rfl rfl).2
  have z_bq : bq < W1.heap.size := (HT.out.in_ 5 rfl rfl).2
  go_wp2_with (at_builtin; go_loud (refine wpList_append_css rfl (.tmp 7) (.tmp 10) _ rfl (e := 3) (size := 1) (bytes := 8) Try.underlying32 infoI rfl (by omega) HT.out 2 rfl rfl [.int .i64 v.k] 3 rfl rfl (by simp [Value.oneCell']) (by unfold maxLen; omega) (by omega) HT.out.base ?next))
  case next =>
    intro A2 c3 W4 T' K' hs3
    try rw [ics_snoc] at T' K'
    clear r_v q_v r_bo q_bo r_bp q_bp r_bq q_bq z_v z_bo z_bp z_bq
    replace T' : St B w0 W4 (.blk w.heap.size #[.int .i64 v.k, .int .i64 v.n] 30 :: .blk bo #[.slice Ao out.length co] 32 :: .row B 3 1 (.slice A2 (out.length + 1) c3) (out.length + 1) (cat (ics (out ++ [v.k]))) :: .blk bp #[.map (some mb)] 61 :: mapRW Try.prog 3 3 (.int .i64 0) mb ord (fun x => .int .i64 (plM 0 ord x)) :: .blk bq #[.slice Aq ord.length cq] 32 :: .row B 3 1 (.slice Aq ord.length cq) ord.length (cat (ics ord)) :: R0) := T'
    replace K' : Keeps W1 (.blk w.heap.size #[.int .i64 v.k, .int .i64 v.n] 30 :: .blk bo #[.slice Ao out.length co] 32 :: .row B 3 1 (.slice Ao out.length co) out.length (cat (ics out)) :: .blk bp #[.map (some mb)] 61 :: mapRW Try.prog 3 3 (.int .i64 0) mb ord (fun x => .int .i64 (plM 0 ord x)) :: .blk bq #[.slice Aq ord.length cq] 32 :: .row B 3 1 (.slice Aq ord.length cq) ord.length (cat (ics ord)) :: R0) W4 (.blk w.heap.size #[.int .i64 v.k, .int .i64 v.n] 30 :: .blk bo #[.slice Ao out.length co] 32 :: .row B 3 1 (.slice A2 (out.length + 1) c3) (out.length + 1) (cat (ics (out ++ [v.k]))) :: .blk bp #[.map (some mb)] 61 :: mapRW Try.prog 3 3 (.int .i64 0) mb ord (fun x => .int .i64 (plM 0 ord x)) :: .blk bq #[.slice Aq ord.length cq] 32 :: .row B 3 1 (.slice Aq ord.length cq) ord.length (cat (ics ord)) :: R0) := K'
    replace HT := Lib.hid T'
    replace HK := Lib.hid (HK.out.trans (by omega) K')
    replace hz : w.heap.size ≤ W4.heap.size := by omega
    clear T' K'
    obtain ⟨r_v, q_v, r_bo, q_bo, r_bp, q_bp, r_bq, q_bq, -⟩ := HT.out.rules
    have z_v : w.heap.size < W4.heap.size := (HT.out.in_ 0 rfl rfl).2
    have z_bo : bo < W4.heap.size := (HT.out.in_ 1 rfl rfl).2
    have z_bp : bp < W4.heap.size := (HT.out.in_ 3 rfl rfl).2
    have z_bq : bq < W4.heap.size := (HT.out.in_ 5 rfl rfl).2
    go_upto_region 2 with fail
    clear r_v q_v r_bo q_bo r_bp q_bp r_bq q_bq z_v z_bo z_bp z_bq
    obtain ⟨T', K'⟩ := HT.out.put 1 0 (.slice A2 (out.length + 1) c3) rfl
    simp only [List.set_cons_succ, List.set_cons_zero, List.setIfInBounds_toArray] at T' K'
    replace HT := Lib.hid T'
    replace HK := Lib.hid (HK.out.trans (by omega) K')
    clear T' K'
    replace hz : w.heap.size ≤ ((W4.setCell ⟨bo, 0, none⟩ (.slice A2 (out.length + 1) c3))).heap.size := by simpa using hz
    generalize W4.setCell ⟨bo, 0, none⟩ (.slice A2 (out.length + 1) c3) = W5 at *
    obtain ⟨r_v, q_v, r_bo, q_bo, r_bp, q_bp, r_bq, q_bq, -⟩ := HT.out.rules
    have z_v : w.heap.size < W5.heap.size := (HT.out.in_ 0 rfl rfl).2
    have z_bo : bo < W5.heap.size := (HT.out.in_ 1 rfl rfl).2
    have z_bp : bp < W5.heap.size := (HT.out.in_ 3 rfl rfl).2
    have z_bq : bq < W5.heap.size := (HT.out.in_ 5 rfl rfl).2
    by_cases hk : v.k = 2
    · have e2 : (v.k == 2) = true := by simpa using hk
      obtain ⟨hv0, hv1⟩ := hv hk
      have hwf := wf60 (i := v.n) (by omega)
      have HK2 := Lib.hid hk
      clear hk hv
      by_cases hm : v.n ∈ ord
      · have hlk := (HT.out.mapw 4 rfl).look (.inr ⟨_, Try.underlying3⟩) Try.underlying3 Try.underlying61 (zeroI _) hwf
        rw [show decide (v.n ∈ ord) = true by simp [hm]] at hlk
        go_upto_region 8 with fail
        clear hlk
        go_wp2_with (at_builtin; go_loud (refine wpList_append_css rfl (.tmp 35) (.tmp 37) _ rfl (e := 3) (size := 1) (bytes := 8) Try.underlying32 infoI rfl (by omega) HT.out 2 rfl rfl [.int .i64 (plM 0 ord v.n)] 3 rfl rfl (by simp [Value.oneCell']) (by unfold maxLen; omega) (by omega) HT.out.base ?next))
        case next =>
          intro A6 c7 W8 T' K' hs3
          try rw [ics_snoc] at T' K'
          clear r_v q_v r_bo q_bo r_bp q_bp r_bq q_bq z_v z_bo z_bp z_bq
          replace T' : St B w0 W8 (.blk w.heap.size #[.int .i64 v.k, .int .i64 v.n] 30 :: .blk bo #[.slice A2 (out.length + 1) c3] 32 :: .row B 3 1 (.slice A6 ((out.length + 1) + 1) c7) ((out.length + 1) + 1) (cat (ics (out ++ [v.k] ++ [plM 0 ord v.n]))) :: .blk bp #[.map (some mb)] 61 :: mapRW Try.prog 3 3 (.int .i64 0) mb ord (fun x => .int .i64 (plM 0 ord x)) :: .blk bq #[.slice Aq ord.length cq] 32 :: .row B 3 1 (.slice Aq ord.length cq) ord.length (cat (ics ord)) :: R0) := T'
          replace K' : Keeps W5 (.blk w.heap.size #[.int .i64 v.k, .int .i64 v.n] 30 :: .blk bo #[.slice A2 (out.length + 1) c3] 32 :: .row B 3 1 (.slice A2 (out.length + 1) c3) (out.length + 1) (cat (ics (out ++ [v.k]))) :: .blk bp #[.map (some mb)] 61 :: mapRW Try.prog 3 3 (.int .i64 0) mb ord (fun x => .int .i64 (plM 0 ord x)) :: .blk bq #[.slice Aq ord.length cq] 32 :: .row B 3 1 (.slice Aq ord.length cq) ord.length (cat (ics ord)) :: R0) W8 (.blk w.heap.size #[.int .i64 v.k, .int .i64 v.n] 30 :: .blk bo #[.slice A2 (out.length + 1) c3] 32 :: .row B 3 1 (.slice A6 ((out.length + 1) + 1) c7) ((out.length + 1) + 1) (cat (ics (out ++ [v.k] ++ [plM 0 ord v.n]))) :: .blk bp #[.map (some mb)] 61 :: mapRW Try.prog 3 3 (.int .i64 0) mb ord (fun x => .int .i64 (plM 0 ord x)) :: .blk bq #[.slice Aq ord.length cq] 32 :: .row B 3 1 (.slice Aq ord.length cq) ord.length (cat (ics ord)) :: R0) := K'
          replace HT := Lib.hid T'
          replace HK := Lib.hid (HK.out.trans (by omega) K')
          replace hz : w.heap.size ≤ W8.heap.size := by omega
          clear T' K'
          obtain ⟨r_v, q_v, r_bo, q_bo, r_bp, q_bp, r_bq, q_bq, -⟩ := HT.out.rules
          have z_v : w.heap.size < W8.heap.size := (HT.out.in_ 0 rfl rfl).2
          have z_bo : bo < W8.heap.size := (HT.out.in_ 1 rfl rfl).2
          have z_bp : bp < W8.heap.size := (HT.out.in_ 3 rfl rfl).2
          have z_bq : bq < W8.heap.size := (HT.out.in_ 5 rfl rfl).2
          go_wp2_with fail
          clear r_v q_v r_bo q_bo r_bp q_bp r_bq q_bq z_v z_bo z_bp z_bq
          obtain ⟨T', K'⟩ := HT.out.put 1 0 (.slice A6 ((out.length + 1) + 1) c7) rfl
          simp only [List.set_cons_succ, List.set_cons_zero, List.setIfInBounds_toArray] at T' K'
          replace HT := Lib.hid T'
          replace HK := Lib.hid (HK.out.trans (by omega) K')
          clear T' K'
          replace hz : w.heap.size ≤ ((W8.setCell ⟨bo, 0, none⟩ (.slice A6 ((out.length + 1) + 1) c7))).heap.size := by simpa using hz
          generalize W8.setCell ⟨bo, 0, none⟩ (.slice A6 ((out.length + 1) + 1) c7) = W9 at *
          obtain ⟨r_v, q_v, r_bo, q_bo, r_bp, q_bp, r_bq, q_bq, -⟩ := HT.out.rules
          have z_v : w.heap.size < W9.heap.size := (HT.out.in_ 0 rfl rfl).2
          have z_bo : bo < W9.heap.size := (HT.out.in_ 1 rfl rfl).2
          have z_bp : bp < W9.heap.size := (HT.out.in_ 3 rfl rfl).2
          have z_bq : bq < W9.heap.size := (HT.out.in_ 5 rfl rfl).2
          clear r_v q_v r_bo q_bo r_bp q_bp r_bq q_bq z_v z_bo z_bp z_bq
          obtain ⟨T', K'⟩ := HT.out.drop 0
          simp only [List.eraseIdx_cons_zero] at T' K'
          replace HT := Lib.hid T'
          replace HK := Lib.hid (HK.out.trans (by omega) K')
          clear T' K'
          try simp only [Exit.inBlock, Exit.then]
          first | go_end0 | refine bodyPost_ret (results_none rfl _ _ _) rfl ?_
          refine ⟨rfl, A6, c7, Aq, cq, ?_⟩
          have e1 : sayQ ord v = ord := if_neg (fun h => h.2 hm)
          have e3 : sayO out ord v = out ++ [v.k] ++ [plM 0 ord v.n] := by unfold sayO; rw [if_pos HK2.out, e1, HK2.out]; simp
          rw [e1, e3, show (out ++ [v.k] ++ [plM 0 ord v.n]).length = out.length + 1 + 1 by simp]
          exact ⟨HT.out, HK.out, hz⟩
      · have hlk := (HT.out.mapw 4 rfl).look (.inr ⟨_, Try.underlying3⟩) Try.underlying3 Try.underlying61 (zeroI _) hwf
        rw [show decide (v.n ∈ ord) = false by simp [hm]] at hlk
        go_upto_region 6 with fail
        clear hlk
        have hmp := Lib.hid (HT.out.mapw 4 rfl)
        have hwn : (Lit.int .i64 ((0 + ord.length : Nat) : Int)).wf = true := WalkArith.wf_i64 (by omega)
        go_wp2_with (at_mapUpdate; go_loud (refine wpList_update_mw _ rfl _ _ _ 61 rfl 3 3 (.int .i64 0) mb ord _ Try.underlying3 Try.underlying61 rfl hmp.out (by unfold maxLen; omega) v.n (.int .i64 (ord.length : Int)) rfl rfl hwf _ (plainElem_int Try.underlying3 (by simpa using hwn)) ?next))
        case next =>
          intro w2 hm2 hg2
          clear r_v q_v r_bo q_bo r_bp q_bp r_bq q_bq z_v z_bo z_bp z_bq
          have hm3 : MapW Try.prog 3 3 (.int .i64 0) w2 mb (ord ++ [v.n]) (fun y => .int .i64 (plM 0 (ord ++ [v.n]) y)) := by
            have e : (fun y => Value.int .i64 (plM 0 (ord ++ [v.n]) y)) = (fun i => if i = v.n then Value.int .i64 (ord.length : Int) else Value.int .i64 (plM 0 ord i)) := by
              funext i
              rw [plM_snoc hm]
              split <;> simp
            rw [e]
            exact hm2
          obtain ⟨T', K'⟩ := HT.out.mapwPut 4 rfl hg2 hm3
          simp only [List.set_cons_succ, List.set_cons_zero] at T' K'
          replace HT := Lib.hid T'
          replace HK := Lib.hid (HK.out.trans (by omega) K')
          clear T' K'
          replace hz : w.heap.size ≤ w2.heap.size := Nat.le_trans hz hg2.size
          clear hm2 hm3 hg2 hmp
          obtain ⟨r_v, q_v, r_bo, q_bo, r_bp, q_bp, r_bq, q_bq, -⟩ := HT.out.rules
          have z_v : w.heap.size < w2.heap.size := (HT.out.in_ 0 rfl rfl).2
          have z_bo : bo < w2.heap.size := (HT.out.in_ 1 rfl rfl).2
          have z_bp : bp < w2.heap.size := (HT.out.in_ 3 rfl rfl).2
          have z_bq : bq < w2.heap.size := (HT.out.in_ 5 rfl rfl).2
          go_upto_region 7 with fail
          go_wp2_with (at_builtin; go_loud (refine wpList_append_css rfl (.tmp 30) (.tmp 33) _ rfl (e := 3) (size := 1) (bytes := 8) Try.underlying32 infoI rfl (by omega) HT.out 6 rfl rfl [.int .i64 v.n] 3 rfl rfl (by simp [Value.oneCell']) (by unfold maxLen; omega) (by omega) HT.out.base ?next))
          case next =>
            intro A10 c11 W12 T' K' hs3
            try rw [ics_snoc] at T' K'
            clear r_v q_v r_bo q_bo r_bp q_bp r_bq q_bq z_v z_bo z_bp z_bq
            replace T' : St B w0 W12 (.blk w.heap.size #[.int .i64 v.k, .int .i64 v.n] 30 :: .blk bo #[.slice A2 (out.length + 1) c3] 32 :: .row B 3 1 (.slice A2 (out.length + 1) c3) (out.length + 1) (cat (ics (out ++ [v.k]))) :: .blk bp #[.map (some mb)] 61 :: mapRW Try.prog 3 3 (.int .i64 0) mb (ord ++ [v.n]) (fun x => .int .i64 (plM 0 (ord ++ [v.n]) x)) :: .blk bq #[.slice Aq ord.length cq] 32 :: .row B 3 1 (.slice A10 (ord.length + 1) c11) (ord.length + 1) (cat (ics (ord ++ [v.n]))) :: R0) := T'
            replace K' : Keeps w2 (.blk w.heap.size #[.int .i64 v.k, .int .i64 v.n] 30 :: .blk bo #[.slice A2 (out.length + 1) c3] 32 :: .row B 3 1 (.slice A2 (out.length + 1) c3) (out.length + 1) (cat (ics (out ++ [v.k]))) :: .blk bp #[.map (some mb)] 61 :: mapRW Try.prog 3 3 (.int .i64 0) mb (ord ++ [v.n]) (fun x => .int .i64 (plM 0 (ord ++ [v.n]) x)) :: .blk bq #[.slice Aq ord.length cq] 32 :: .row B 3 1 (.slice Aq ord.length cq) ord.length (cat (ics ord)) :: R0) W12 (.blk w.heap.size #[.int .i64 v.k, .int .i64 v.n] 30 :: .blk bo #[.slice A2 (out.length + 1) c3] 32 :: .row B 3 1 (.slice A2 (out.length + 1) c3) (out.length + 1) (cat (ics (out ++ [v.k]))) :: .blk bp #[.map (some mb)] 61 :: mapRW Try.prog 3 3 (.int .i64 0) mb (ord ++ [v.n]) (fun x => .int .i64 (plM 0 (ord ++ [v.n]) x)) :: .blk bq #[.slice Aq ord.length cq] 32 :: .row B 3 1 (.slice A10 (ord.length + 1) c11) (ord.length + 1) (cat (ics (ord ++ [v.n]))) :: R0) := K'
            replace HT := Lib.hid T'
            replace HK := Lib.hid (HK.out.trans (by omega) K')
            replace hz : w.heap.size ≤ W12.heap.size := by omega
            clear T' K'
            obtain ⟨r_v, q_v, r_bo, q_bo, r_bp, q_bp, r_bq, q_bq, -⟩ := HT.out.rules
            have z_v : w.heap.size < W12.heap.size := (HT.out.in_ 0 rfl rfl).2
            have z_bo : bo < W12.heap.size := (HT.out.in_ 1 rfl rfl).2
            have z_bp : bp < W12.heap.size := (HT.out.in_ 3 rfl rfl).2
            have z_bq : bq < W12.heap.size := (HT.out.in_ 5 rfl rfl).2
            go_upto_region 8 with fail
            clear r_v q_v r_bo q_bo r_bp q_bp r_bq q_bq z_v z_bo z_bp z_bq
            obtain ⟨T', K'⟩ := HT.out.put 5 0 (.slice A10 (ord.length + 1) c11) rfl
            simp only [List.set_cons_succ, List.set_cons_zero, List.setIfInBounds_toArray] at T' K'
            replace HT := Lib.hid T'
            replace HK := Lib.hid (HK.out.trans (by omega) K')
            clear T' K'
            replace hz : w.heap.size ≤ ((W12.setCell ⟨bq, 0, none⟩ (.slice A10 (ord.length + 1) c11))).heap.size := by simpa using hz
            generalize W12.setCell ⟨bq, 0, none⟩ (.slice A10 (ord.length + 1) c11) = W13 at *
            obtain ⟨r_v, q_v, r_bo, q_bo, r_bp, q_bp, r_bq, q_bq, -⟩ := HT.out.rules
            have z_v : w.heap.size < W13.heap.size := (HT.out.in_ 0 rfl rfl).2
            have z_bo : bo < W13.heap.size := (HT.out.in_ 1 rfl rfl).2
            have z_bp : bp < W13.heap.size := (HT.out.in_ 3 rfl rfl).2
            have z_bq : bq < W13.heap.size := (HT.out.in_ 5 rfl rfl).2
            go_wp2_with (at_builtin; go_loud (refine wpList_append_css rfl (.tmp 35) (.tmp 37) _ rfl (e := 3) (size := 1) (bytes := 8) Try.underlying32 infoI rfl (by omega) HT.out 2 rfl rfl [.int .i64 ((ord.length : Int))] 3 rfl rfl (by simp [Value.oneCell']) (by unfold maxLen; omega) (by omega) HT.out.base ?next))
            case next =>
              intro A14 c15 W16 T' K' hs3
              try rw [ics_snoc] at T' K'
              clear r_v q_v r_bo q_bo r_bp q_bp r_bq q_bq z_v z_bo z_bp z_bq
              replace T' : St B w0 W16 (.blk w.heap.size #[.int .i64 v.k, .int .i64 v.n] 30 :: .blk bo #[.slice A2 (out.length + 1) c3] 32 :: .row B 3 1 (.slice A14 ((out.length + 1) + 1) c15) ((out.length + 1) + 1) (cat (ics (out ++ [v.k] ++ [(ord.length : Int)]))) :: .blk bp #[.map (some mb)] 61 :: mapRW Try.prog 3 3 (.int .i64 0) mb (ord ++ [v.n]) (fun x => .int .i64 (plM 0 (ord ++ [v.n]) x)) :: .blk bq #[.slice A10 (ord.length + 1) c11] 32 :: .row B 3 1 (.slice A10 (ord.length + 1) c11) (ord.length + 1) (cat (ics (ord ++ [v.n]))) :: R0) := T'
              replace K' : Keeps W13 (.blk w.heap.size #[.int .i64 v.k, .int .i64 v.n] 30 :: .blk bo #[.slice A2 (out.length + 1) c3] 32 :: .row B 3 1 (.slice A2 (out.length + 1) c3) (out.length + 1) (cat (ics (out ++ [v.k]))) :: .blk bp #[.map (some mb)] 61 :: mapRW Try.prog 3 3 (.int .i64 0) mb (ord ++ [v.n]) (fun x => .int .i64 (plM 0 (ord ++ [v.n]) x)) :: .blk bq #[.slice A10 (ord.length + 1) c11] 32 :: .row B 3 1 (.slice A10 (ord.length + 1) c11) (ord.length + 1) (cat (ics (ord ++ [v.n]))) :: R0) W16 (.blk w.heap.size #[.int .i64 v.k, .int .i64 v.n] 30 :: .blk bo #[.slice A2 (out.length + 1) c3] 32 :: .row B 3 1 (.slice A14 ((out.length + 1) + 1) c15) ((out.length + 1) + 1) (cat (ics (out ++ [v.k] ++ [(ord.length : Int)]))) :: .blk bp #[.map (some mb)] 61 :: mapRW Try.prog 3 3 (.int .i64 0) mb (ord ++ [v.n]) (fun x => .int .i64 (plM 0 (ord ++ [v.n]) x)) :: .blk bq #[.slice A10 (ord.length + 1) c11] 32 :: .row B 3 1 (.slice A10 (ord.length + 1) c11) (ord.length + 1) (cat (ics (ord ++ [v.n]))) :: R0) := K'
              replace HT := Lib.hid T'
              replace HK := Lib.hid (HK.out.trans (by omega) K')
              replace hz : w.heap.size ≤ W16.heap.size := by omega
              clear T' K'
              obtain ⟨r_v, q_v, r_bo, q_bo, r_bp, q_bp, r_bq, q_bq, -⟩ := HT.out.rules
              have z_v : w.heap.size < W16.heap.size := (HT.out.in_ 0 rfl rfl).2
              have z_bo : bo < W16.heap.size := (HT.out.in_ 1 rfl rfl).2
              have z_bp : bp < W16.heap.size := (HT.out.in_ 3 rfl rfl).2
              have z_bq : bq < W16.heap.size := (HT.out.in_ 5 rfl rfl).2
              go_wp2_with fail
              clear r_v q_v r_bo q_bo r_bp q_bp r_bq q_bq z_v z_bo z_bp z_bq
              obtain ⟨T', K'⟩ := HT.out.put 1 0 (.slice A14 ((out.length + 1) + 1) c15) rfl
              simp only [List.set_cons_succ, List.set_cons_zero, List.setIfInBounds_toArray] at T' K'
              replace HT := Lib.hid T'
              replace HK := Lib.hid (HK.out.trans (by omega) K')
              clear T' K'
              replace hz : w.heap.size ≤ ((W16.setCell ⟨bo, 0, none⟩ (.slice A14 ((out.length + 1) + 1) c15))).heap.size := by simpa using hz
              generalize W16.setCell ⟨bo, 0, none⟩ (.slice A14 ((out.length + 1) + 1) c15) = W17 at *
              obtain ⟨r_v, q_v, r_bo, q_bo, r_bp, q_bp, r_bq, q_bq, -⟩ := HT.out.rules
              have z_v : w.heap.size < W17.heap.size := (HT.out.in_ 0 rfl rfl).2
              have z_bo : bo < W17.heap.size := (HT.out.in_ 1 rfl rfl).2
              have z_bp : bp < W17.heap.size := (HT.out.in_ 3 rfl rfl).2
              have z_bq : bq < W17.heap.size := (HT.out.in_ 5 rfl rfl).2
              clear r_v q_v r_bo q_bo r_bp q_bp r_bq q_bq z_v z_bo z_bp z_bq
              obtain ⟨T', K'⟩ := HT.out.drop 0
              simp only [List.eraseIdx_cons_zero] at T' K'
              replace HT := Lib.hid T'
              replace HK := Lib.hid (HK.out.trans (by omega) K')
              clear T' K'
              try simp only [Exit.inBlock, Exit.then]
              first | go_end0 | refine bodyPost_ret (results_none rfl _ _ _) rfl ?_
              refine ⟨rfl, A14, c15, A10, c11, ?_⟩
              have e1 : sayQ ord v = ord ++ [v.n] := if_pos ⟨HK2.out, hm⟩
              have e3 : sayO out ord v = out ++ [v.k] ++ [(ord.length : Int)] := by
                unfold sayO
                rw [if_pos HK2.out, e1, plM_snoc hm, if_pos rfl, HK2.out]
                simp
              rw [e1, e3, show (out ++ [v.k] ++ [(ord.length : Int)]).length = out.length + 1 + 1 by simp, show (ord ++ [v.n]).length = ord.length + 1 by simp]
              exact ⟨HT.out, HK.out, hz⟩
    · have e2 : (v.k == 2) = false := by simpa using hk
      clear r_v q_v r_bo q_bo r_bp q_bp r_bq q_bq z_v z_bo z_bp z_bq
      obtain ⟨r_v, q_v, r_bo, q_bo, r_bp, q_bp, r_bq, q_bq, -⟩ := HT.out.rules
      have z_v : w.heap.size < W5.heap.size := (HT.out.in_ 0 rfl rfl).2
      have z_bo : bo < W5.heap.size := (HT.out.in_ 1 rfl rfl).2
      have z_bp : bp < W5.heap.size := (HT.out.in_ 3 rfl rfl).2
      have z_bq : bq < W5.heap.size := (HT.out.in_ 5 rfl rfl).2
      go_upto_region 9 with fail
      go_wp2_with (at_builtin; go_loud (refine wpList_append_css rfl (.tmp 39) (.tmp 42) _ rfl (e := 3) (size := 1) (bytes := 8) Try.underlying32 infoI rfl (by omega) HT.out 2 rfl rfl [.int .i64 v.n] 3 rfl rfl (by simp [Value.oneCell']) (by unfold maxLen; omega) (by omega) HT.out.base ?next))
      case next =>
        intro A18 c19 W20 T' K' hs3
        try rw [ics_snoc] at T' K'
        clear r_v q_v r_bo q_bo r_bp q_bp r_bq q_bq z_v z_bo z_bp z_bq
        replace T' : St B w0 W20 (.blk w.heap.size #[.int .i64 v.k, .int .i64 v.n] 30 :: .blk bo #[.slice A2 (out.length + 1) c3] 32 :: .row B 3 1 (.slice A18 ((out.length + 1) + 1) c19) ((out.length + 1) + 1) (cat (ics (out ++ [v.k] ++ [v.n]))) :: .blk bp #[.map (some mb)] 61 :: mapRW Try.prog 3 3 (.int .i64 0) mb ord (fun x => .int .i64 (plM 0 ord x)) :: .blk bq #[.slice Aq ord.length cq] 32 :: .row B 3 1 (.slice Aq ord.length cq) ord.length (cat (ics ord)) :: R0) := T'
        replace K' : Keeps W5 (.blk w.heap.size #[.int .i64 v.k, .int .i64 v.n] 30 :: .blk bo #[.slice A2 (out.length + 1) c3] 32 :: .row B 3 1 (.slice A2 (out.length + 1) c3) (out.length + 1) (cat (ics (out ++ [v.k]))) :: .blk bp #[.map (some mb)] 61 :: mapRW Try.prog 3 3 (.int .i64 0) mb ord (fun x => .int .i64 (plM 0 ord x)) :: .blk bq #[.slice Aq ord.length cq] 32 :: .row B 3 1 (.slice Aq ord.length cq) ord.length (cat (ics ord)) :: R0) W20 (.blk w.heap.size #[.int .i64 v.k, .int .i64 v.n] 30 :: .blk bo #[.slice A2 (out.length + 1) c3] 32 :: .row B 3 1 (.slice A18 ((out.length + 1) + 1) c19) ((out.length + 1) + 1) (cat (ics (out ++ [v.k] ++ [v.n]))) :: .blk bp #[.map (some mb)] 61 :: mapRW Try.prog 3 3 (.int .i64 0) mb ord (fun x => .int .i64 (plM 0 ord x)) :: .blk bq #[.slice Aq ord.length cq] 32 :: .row B 3 1 (.slice Aq ord.length cq) ord.length (cat (ics ord)) :: R0) := K'
        replace HT := Lib.hid T'
        replace HK := Lib.hid (HK.out.trans (by omega) K')
        replace hz : w.heap.size ≤ W20.heap.size := by omega
        clear T' K'
        obtain ⟨r_v, q_v, r_bo, q_bo, r_bp, q_bp, r_bq, q_bq, -⟩ := HT.out.rules
        have z_v : w.heap.size < W20.heap.size := (HT.out.in_ 0 rfl rfl).2
        have z_bo : bo < W20.heap.size := (HT.out.in_ 1 rfl rfl).2
        have z_bp : bp < W20.heap.size := (HT.out.in_ 3 rfl rfl).2
        have z_bq : bq < W20.heap.size := (HT.out.in_ 5 rfl rfl).2
        go_wp2_with fail
        clear r_v q_v r_bo q_bo r_bp q_bp r_bq q_bq z_v z_bo z_bp z_bq
        obtain ⟨T', K'⟩ := HT.out.put 1 0 (.slice A18 ((out.length + 1) + 1) c19) rfl
        simp only [List.set_cons_succ, List.set_cons_zero, List.setIfInBounds_toArray] at T' K'
        replace HT := Lib.hid T'
        replace HK := Lib.hid (HK.out.trans (by omega) K')
        clear T' K'
        replace hz : w.heap.size ≤ ((W20.setCell ⟨bo, 0, none⟩ (.slice A18 ((out.length + 1) + 1) c19))).heap.size := by simpa using hz
        generalize W20.setCell ⟨bo, 0, none⟩ (.slice A18 ((out.length + 1) + 1) c19) = W21 at *
        obtain ⟨r_v, q_v, r_bo, q_bo, r_bp, q_bp, r_bq, q_bq, -⟩ := HT.out.rules
        have z_v : w.heap.size < W21.heap.size := (HT.out.in_ 0 rfl rfl).2
        have z_bo : bo < W21.heap.size := (HT.out.in_ 1 rfl rfl).2
        have z_bp : bp < W21.heap.size := (HT.out.in_ 3 rfl rfl).2
        have z_bq : bq < W21.heap.size := (HT.out.in_ 5 rfl rfl).2
        clear r_v q_v r_bo q_bo r_bp q_bp r_bq q_bq z_v z_bo z_bp z_bq
        obtain ⟨T', K'⟩ := HT.out.drop 0
        simp only [List.eraseIdx_cons_zero] at T' K'
        replace HT := Lib.hid T'
        replace HK := Lib.hid (HK.out.trans (by omega) K')
        clear T' K'
        try simp only [Exit.inBlock, Exit.then]
        first | go_end0 | refine bodyPost_ret (results_none rfl _ _ _) rfl ?_
        refine ⟨rfl, A18, c19, Aq, cq, ?_⟩
        have e1 : sayQ ord v = ord := if_neg (fun h => hk h.1)
        have e3 : sayO out ord v = out ++ [v.k] ++ [v.n] := by unfold sayO; rw [if_neg hk]; simp
        rw [e1, e3, show (out ++ [v.k] ++ [v.n]).length = out.length + 1 + 1 by simp]
        exact ⟨HT.out, HK.out, hz⟩
end Go.Proofs.Ytabcjdalifhpdaa
