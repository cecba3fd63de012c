/- The walk of heap.Collect. No condition beside what is read. -/
import Derived.Test.YtabcjdalifhpdaaMoved
import Derived.Test.YtabcjdalifhpdaaAlloc
import Derived.Test.YtabcjdalifhpdaaSortI
import Derived.Test.YtabcjdalifhpdaaReach
import Derived.Test.YtabcjdalifhpdaaTransfer
namespace Go.Proofs.Ytabcjdalifhpdaa
open Go.RowKit

set_option maxRecDepth 100000 in
set_option maxHeartbeats 8000000 in
theorem collect_any (m : Int) (S T : Nat → Prop) (A R : Option Addr) (c d : Nat) (os : List Ob) (rs : List V) (w : World) (hr : RdSl obE w S (.slice A os.length c) os) (hq : RdSl vE w T (.slice R rs.length d) rs) :
    Calls Try.prog 13 #[.agg #[.int .i64 m, .slice A os.length c], .slice R rs.length d] w (CollD w ⟨m, os⟩ rs (reachL os rs)) := by
  obtain ⟨-, h1, h2, h3⟩ := hr.lims
  obtain ⟨-, h4, h5, h6⟩ := hq.lims
  have hfb : os.length * 32 ≤ 140737488355328 := h3
  have hqb : rs.length * 16 ≤ 140737488355328 := h6
  have Hr := Lib.hid hr
  have Hq := Lib.hid hq
  clear hr hq h3 h6
  have T0 : St w.heap.size w (((w.alloc (.cells #[.int .i64 m, .slice A os.length c] 25)).alloc (.cells #[.int .i64 0, .slice none 0 0] 25))) [.blk (w.heap.size + 1) #[.int .i64 0, .slice none 0 0] 25, .blk w.heap.size #[.int .i64 m, .slice A os.length c] 25] := ((((St.start w (Nat.le_refl _)).new' #[.int .i64 m, .slice A os.length c] 25 (w.heap.size) (by simp)).1).new' #[.int .i64 0, .slice none 0 0] 25 (w.heap.size + 1) (by simp)).1
  have HT := Lib.hid T0
  have hz : w.heap.size + 1 + 1 ≤ ((w.alloc (.cells #[.int .i64 m, .slice A os.length c] 25)).alloc (.cells #[.int .i64 0, .slice none 0 0] 25)).heap.size := by simp
  clear T0
  replace Hr : Hid (RdSl obE (((w.alloc (.cells #[.int .i64 m, .slice A os.length c] 25)).alloc (.cells #[.int .i64 0, .slice none 0 0] 25))) (Fr 0 [.blk (w.heap.size + 1) #[.int .i64 0, .slice none 0 0] 25, .blk w.heap.size #[.int .i64 m, .slice A os.length c] 25]) (.slice A os.length c) os) := Lib.hid (Hr.out.pool (by decide) HT.out)
  replace Hq : Hid (RdSl vE (((w.alloc (.cells #[.int .i64 m, .slice A os.length c] 25)).alloc (.cells #[.int .i64 0, .slice none 0 0] 25))) (Fr 0 [.blk (w.heap.size + 1) #[.int .i64 0, .slice none 0 0] 25, .blk w.heap.size #[.int .i64 m, .slice A os.length c] 25]) (.slice R rs.length d) rs) := Lib.hid (Hq.out.pool (by decide) HT.out)
  by_cases hp : hpB ⟨m, os⟩ rs = true
  · have Hok := Lib.hid (hpB_refs hp)
    have Hp := Lib.hid hp
    have HC := Lib.hid (checkN_ok hp)
    clear hp
    go_enter Try.func13, Try.ntmps13
    go_upto_region 1 with fail
    generalize ((w.alloc (.cells #[.int .i64 m, .slice A os.length c] 25)).alloc (.cells #[.int .i64 0, .slice none 0 0] 25)) = W3 at *
    obtain ⟨r_rH, q_rH, r_h, q_h, -⟩ := HT.out.rules
    have z_rH : w.heap.size + 1 < W3.heap.size := (HT.out.in_ 0 rfl rfl).2
    have z_h : w.heap.size < W3.heap.size := (HT.out.in_ 1 rfl rfl).2
    go_wp2_with fail
    refine (check_is m _ _ A R c d os rs _ _ HC.out Hr.out Hq.out).mono ?_
    rintro en W4 ⟨rfl, hb⟩
    clear r_rH q_rH r_h q_h z_rH z_h
    obtain ⟨T', K'⟩ := HT.out.call hb
    replace HT := Lib.hid T'
    replace Hr := Lib.hid (Hr.out.move (by decide) K')
    replace Hq := Lib.hid (Hq.out.move (by decide) K')
    clear T' K'
    replace hz : w.heap.size + 1 + 1 ≤ W4.heap.size := Nat.le_trans hz hb.size
    clear hb
    obtain ⟨r_rH, q_rH, r_h, q_h, -⟩ := HT.out.rules
    have z_rH : w.heap.size + 1 < W4.heap.size := (HT.out.in_ 0 rfl rfl).2
    have z_h : w.heap.size < W4.heap.size := (HT.out.in_ 1 rfl rfl).2
    go_wp2_with fail
    refine (reach_any m _ _ A R c d os rs _ Hr.out Hq.out Hok.out).mono ?_
    rintro en Wr ⟨v3, l, rfl, hled, htold, hown3, hb⟩
    obtain ⟨R3, c3, rfl⟩ := own_form hown3
    clear r_rH q_rH r_h q_h z_rH z_h
    obtain ⟨T', K'⟩ := HT.out.ownRow hb hown3 (m := w.heap.size + 1 + 1) (by omega)
    replace HT := Lib.hid T'
    replace Hr := Lib.hid (Hr.out.move (by decide) K')
    replace Hq := Lib.hid (Hq.out.move (by decide) K')
    clear T' K'
    replace hz : w.heap.size + 1 + 1 ≤ Wr.heap.size := Nat.le_trans hz hb.size
    have HRL := Lib.hid (reachL_is hled)
    have hlen : l.length ≤ os.length := htold.len
    have hfew := Hok.out.few
    have hKS := sort_keep htold
    have hKl : (keepL os.length l).length = l.length := by rw [← hKS]; simp
    have Hin : Hid (∀ x ∈ keepL os.length l, 0 ≤ x ∧ x < (os.length : Int)) := Lib.hid (fun x hx => (keepL_mem.1 hx).2)
    have Hnd := Lib.hid (keepL_nodup os.length l)
    clear hled htold hown3 hb
    obtain ⟨r_rH, q_rH, r_h, q_h, -⟩ := HT.out.rules
    have z_rH : w.heap.size + 1 < Wr.heap.size := (HT.out.in_ 1 rfl rfl).2
    have z_h : w.heap.size < Wr.heap.size := (HT.out.in_ 2 rfl rfl).2
    go_wp2_with fail
    refine (sortI_any _ R3 c3 l _ (HT.out.own 0 rfl) (by omega)).mono ?_
    rintro en Ws ⟨rfl, hg, ho⟩
    rw [hKS] at ho
    clear r_rH q_rH r_h q_h z_rH z_h
    have hpost : CollD w ⟨m, os⟩ rs (reachL os rs) = fun en w' => ∃ u A c, en = .returned (.tuple #[u, .slice A rs.length c, .int .i64 0]) ∧ RdH w' w.heap.size u ⟨m, (keepL os.length l).map (keptO os (keepL os.length l))⟩ ∧ RdSl vE w' (fun b => w.heap.size ≤ b) (.slice A rs.length c) (rs.map (newV (plM 0 (keepL os.length l)))) ∧ Below w.heap.size w w' := by
      have hn : ¬ hpB ⟨m, os⟩ rs = false := by rw [Hp.out]; decide
      funext en w'
      unfold CollD collV collH collE
      rw [HRL.out, if_neg hn, if_neg hn, if_neg hn, List.length_map]
    have HP := Lib.hid hpost
    clear hpost HRL hKS
    generalize keepL os.length l = K at *
    obtain ⟨T', K'⟩ := HT.out.grown 0 rfl (.row (w.heap.size + 1 + 1) 3 1 (.slice R3 l.length c3) l.length (K.map (.int .i64))) hg (fun _ hb => hb) ho (fun b hb => .inl hb)
    simp only [List.set_cons_zero] at T' K'
    replace HT := Lib.hid T'
    replace Hr := Lib.hid (Hr.out.move (by decide) K')
    replace Hq := Lib.hid (Hq.out.move (by decide) K')
    clear T' K'
    replace hz : w.heap.size + 1 + 1 ≤ Ws.heap.size := Nat.le_trans hz hg.size
    clear hg ho
    have HK0 := HT.out.outI (n := 0) 0 (xs := K) rfl hKl.symm (by omega) (Nat.zero_le _)
    rw [← hKl] at HK0
    obtain ⟨T', K'⟩ := HT.out.drop 0
    simp only [List.eraseIdx_cons_zero] at T' K'
    replace HT := Lib.hid T'
    replace Hr := Lib.hid (Hr.out.move (by decide) K')
    replace Hq := Lib.hid (Hq.out.move (by decide) K')
    clear T' K'
    have HK : Hid (RdSl iE Ws (Fr 0 [.blk (w.heap.size + 1) #[.int .i64 0, .slice none 0 0] 25, .blk w.heap.size #[.int .i64 m, .slice A os.length c] 25]) (.slice R3 K.length c3) K) := Lib.hid HK0
    clear HK0
    have hK60 : K.length ≤ 60 := by omega
    obtain ⟨r_rH, q_rH, r_h, q_h, -⟩ := HT.out.rules
    have z_rH : w.heap.size + 1 < Ws.heap.size := (HT.out.in_ 0 rfl rfl).2
    have z_h : w.heap.size < Ws.heap.size := (HT.out.in_ 1 rfl rfl).2
    have hmm := @run_makeMap Try.prog
    rw [← hKl]
    clear hKl hlen
    go_upto_region 7 with fail
    obtain ⟨T', K'⟩ := HT.out.made (w' := Ws.alloc (.map #[] 0)) ((Below.refl _ _).alloc (Nat.le_refl _) _) (mapR Try.prog 3 3 (.int .i64 0) Ws.heap.size 0 (fun x => .int .i64 (plM 0 (K.take 0) x))) ((MapV.made (plainElem_int Try.underlying3 (a := 0) (by decide))).congr (fun k _ => by simp [plM])) (fun b hb => by replace hb : b = Ws.heap.size := hb; subst hb; simp)
    clear r_rH q_rH r_h q_h z_rH z_h
    replace HT := Lib.hid T'
    replace Hr := Lib.hid (Hr.out.move (by decide) K')
    replace Hq := Lib.hid (Hq.out.move (by decide) K')
    replace HK := Lib.hid (HK.out.move (by decide) K')
    replace hz : w.heap.size + 1 + 1 ≤ ((Ws.alloc (.map #[] 0))).heap.size := Nat.le_trans hz (by simp)
    clear T' K'
    obtain ⟨T', K'⟩ := HT.out.new' #[.map (some Ws.heap.size)] 61 (Ws.heap.size + 1) (by first | (simp; done) | rfl)
    replace HT := Lib.hid T'
    replace Hr := Lib.hid (Hr.out.move (by decide) K')
    replace Hq := Lib.hid (Hq.out.move (by decide) K')
    replace HK := Lib.hid (HK.out.move (by decide) K')
    clear T' K'
    replace hz : w.heap.size + 1 + 1 ≤ (((Ws.alloc (.map #[] 0)).alloc (.cells #[.map (some Ws.heap.size)] 61))).heap.size := Nat.le_trans hz (by simp)
    generalize ((Ws.alloc (.map #[] 0)).alloc (.cells #[.map (some Ws.heap.size)] 61)) = Wm at *
    obtain ⟨r_place, q_place, r_rH, q_rH, r_h, q_h, -⟩ := HT.out.rules
    have z_place : Ws.heap.size + 1 < Wm.heap.size := (HT.out.in_ 0 rfl rfl).2
    have z_rH : w.heap.size + 1 < Wm.heap.size := (HT.out.in_ 2 rfl rfl).2
    have z_h : w.heap.size < Wm.heap.size := (HT.out.in_ 3 rfl rfl).2
    go_wp2_with fail
    clear hmm
    go_loopw [32] (fun i wl5 => ∃ k : Nat, i = .int .i64 k ∧ k ≤ K.length ∧ St w.heap.size w wl5 [.blk (Ws.heap.size + 1) #[.map (some Ws.heap.size)] 61, mapR Try.prog 3 3 (.int .i64 0) Ws.heap.size k (fun x => .int .i64 (plM 0 (K.take k) x)), .blk (w.heap.size + 1) #[.int .i64 0, .slice none 0 0] 25, .blk w.heap.size #[.int .i64 m, .slice A os.length c] 25] ∧ RdSl obE wl5 (Fr 0 [.blk (Ws.heap.size + 1) #[.map (some Ws.heap.size)] 61, mapR Try.prog 3 3 (.int .i64 0) Ws.heap.size k (fun x => .int .i64 (plM 0 (K.take k) x)), .blk (w.heap.size + 1) #[.int .i64 0, .slice none 0 0] 25, .blk w.heap.size #[.int .i64 m, .slice A os.length c] 25]) (.slice A os.length c) os ∧ RdSl vE wl5 (Fr 0 [.blk (Ws.heap.size + 1) #[.map (some Ws.heap.size)] 61, mapR Try.prog 3 3 (.int .i64 0) Ws.heap.size k (fun x => .int .i64 (plM 0 (K.take k) x)), .blk (w.heap.size + 1) #[.int .i64 0, .slice none 0 0] 25, .blk w.heap.size #[.int .i64 m, .slice A os.length c] 25]) (.slice R rs.length d) rs ∧ RdSl iE wl5 (Fr 0 [.blk (Ws.heap.size + 1) #[.map (some Ws.heap.size)] 61, mapR Try.prog 3 3 (.int .i64 0) Ws.heap.size k (fun x => .int .i64 (plM 0 (K.take k) x)), .blk (w.heap.size + 1) #[.int .i64 0, .slice none 0 0] 25, .blk w.heap.size #[.int .i64 m, .slice A os.length c] 25]) (.slice R3 K.length c3) K ∧ w.heap.size + 1 + 1 ≤ wl5.heap.size) (fun i _ => K.length - (intOf i).toNat)
    case atStart =>
      refine ⟨0, ?_, ?_, ?_, ?_, ?_, ?_, ?_⟩
      · rfl
      · exact Nat.zero_le _
      · with_reducible exact HT.out
      · with_reducible exact Hr.out
      · with_reducible exact Hq.out
      · with_reducible exact HK.out
      · exact hz
    case round =>
      generalize wr = wl5 at *
      clear HT Hr Hq HK hz
      obtain ⟨k, rfl, hk, ht, pHr, pHq, pHK, hz⟩ := hrel
      have HT := Lib.hid ht
      have Hr : Hid (RdSl obE wl5 (Fr 0 [.blk (Ws.heap.size + 1) #[.map (some Ws.heap.size)] 61, mapR Try.prog 3 3 (.int .i64 0) Ws.heap.size k (fun x => .int .i64 (plM 0 (K.take k) x)), .blk (w.heap.size + 1) #[.int .i64 0, .slice none 0 0] 25, .blk w.heap.size #[.int .i64 m, .slice A os.length c] 25]) (.slice A os.length c) os) := Lib.hid pHr
      have Hq : Hid (RdSl vE wl5 (Fr 0 [.blk (Ws.heap.size + 1) #[.map (some Ws.heap.size)] 61, mapR Try.prog 3 3 (.int .i64 0) Ws.heap.size k (fun x => .int .i64 (plM 0 (K.take k) x)), .blk (w.heap.size + 1) #[.int .i64 0, .slice none 0 0] 25, .blk w.heap.size #[.int .i64 m, .slice A os.length c] 25]) (.slice R rs.length d) rs) := Lib.hid pHq
      have HK : Hid (RdSl iE wl5 (Fr 0 [.blk (Ws.heap.size + 1) #[.map (some Ws.heap.size)] 61, mapR Try.prog 3 3 (.int .i64 0) Ws.heap.size k (fun x => .int .i64 (plM 0 (K.take k) x)), .blk (w.heap.size + 1) #[.int .i64 0, .slice none 0 0] 25, .blk w.heap.size #[.int .i64 m, .slice A os.length c] 25]) (.slice R3 K.length c3) K) := Lib.hid pHK
      clear ht pHr pHq pHK
      by_cases hlt : k < K.length
      · obtain ⟨x, hx⟩ : ∃ x, K[k]? = some x := ⟨K[k], List.getElem?_eq_getElem hlt⟩
        obtain ⟨b, o, rfl, _, _, y0⟩ := HK.out.at_i hx
        have hxw := Hin.out x (List.mem_of_getElem? hx)
        have hwf := wf60 (i := x) (by omega)
        have hwn : (Lit.int .i64 ((0 + k : Nat) : Int)).wf = true := WalkArith.wf_i64 (by omega)
        have HX := Lib.hid hx
        clear hx
        have i1 : (0 : Int) ≤ (k : Int) := by omega
        have i2 : (k : Int) < (K.length : Int) := by omega
        have hmp := Lib.hid (HT.out.map 1 rfl)
        obtain ⟨r_place, q_place, -⟩ := HT.out.rules
        have z_place : Ws.heap.size + 1 < wl5.heap.size := (HT.out.in_ 0 rfl rfl).2
        go_wp2_with (at_mapUpdate; go_loud (refine wpList_update_mv _ rfl _ _ _ 61 rfl 3 3 (.int .i64 0) Ws.heap.size k _ Try.underlying3 Try.underlying61 rfl hmp.out (by unfold maxLen; omega) x (.int .i64 (k : Int)) rfl rfl hwf _ (plainElem_int Try.underlying3 (by simpa using hwn)) ?next))
        case next =>
          intro w2 hm2 hg2
          clear r_place q_place z_place
          have hm3 := hm2.congr (g := fun y => .int .i64 (plM 0 (K.take (k + 1)) y)) (fun y _ => by rw [plM_take Hnd.out HX.out, Nat.zero_add]; split <;> rfl)
          obtain ⟨T', K'⟩ := HT.out.mapPut 1 rfl hg2 hm3
          simp only [List.set_cons_succ, List.set_cons_zero] at T' K'
          replace HT := Lib.hid T'
          replace Hr := Lib.hid (Hr.out.move (by decide) K')
          replace Hq := Lib.hid (Hq.out.move (by decide) K')
          replace HK := Lib.hid (HK.out.move (by decide) K')
          clear T' K'
          replace hz : w.heap.size + 1 + 1 ≤ w2.heap.size := Nat.le_trans hz hg2.size
          clear hm2 hm3 hg2 hmp y0
          go_wp2_with fail
          go_roundw
          case rel =>
            refine ⟨k + 1, ?_, ?_, ?_, ?_, ?_, ?_, ?_⟩
            · go_num
            · omega
            · with_reducible exact HT.out
            · with_reducible exact Hr.out
            · with_reducible exact Hq.out
            · with_reducible exact HK.out
            · exact hz
          case measure => simp [intOf]; omega
      · have hkk : k = K.length := by omega
        subst hkk
        rw [List.take_length] at HT HK Hr Hq
        clear hk hlt
        replace HK : Hid (RdSl iE wl5 (Fr 0 [.blk (Ws.heap.size + 1) #[.map (some Ws.heap.size)] 61, mapR Try.prog 3 3 (.int .i64 0) Ws.heap.size K.length (fun x => .int .i64 (plM 0 K x)), .blk (w.heap.size + 1) #[.int .i64 0, .slice none 0 0] 25, .blk w.heap.size #[.int .i64 m, .slice A os.length c] 25]) (.slice R3 K.length c3) K) := HK
        replace Hr : Hid (RdSl obE wl5 (Fr 0 [.blk (Ws.heap.size + 1) #[.map (some Ws.heap.size)] 61, mapR Try.prog 3 3 (.int .i64 0) Ws.heap.size K.length (fun x => .int .i64 (plM 0 K x)), .blk (w.heap.size + 1) #[.int .i64 0, .slice none 0 0] 25, .blk w.heap.size #[.int .i64 m, .slice A os.length c] 25]) (.slice A os.length c) os) := Hr
        replace Hq : Hid (RdSl vE wl5 (Fr 0 [.blk (Ws.heap.size + 1) #[.map (some Ws.heap.size)] 61, mapR Try.prog 3 3 (.int .i64 0) Ws.heap.size K.length (fun x => .int .i64 (plM 0 K x)), .blk (w.heap.size + 1) #[.int .i64 0, .slice none 0 0] 25, .blk w.heap.size #[.int .i64 m, .slice A os.length c] 25]) (.slice R rs.length d) rs) := Hq
        replace HT : Hid (St w.heap.size w wl5 [.blk (Ws.heap.size + 1) #[.map (some Ws.heap.size)] 61, mapR Try.prog 3 3 (.int .i64 0) Ws.heap.size K.length (fun x => .int .i64 (plM 0 K x)), .blk (w.heap.size + 1) #[.int .i64 0, .slice none 0 0] 25, .blk w.heap.size #[.int .i64 m, .slice A os.length c] 25]) := HT
        obtain ⟨-, -, -, -, r_h, q_h, -⟩ := HT.out.rules
        have z_h : w.heap.size < wl5.heap.size := (HT.out.in_ 3 rfl rfl).2
        go_upto_region 14 with fail
        obtain ⟨T', K'⟩ := HT.out.new' #[.int .i64 m, .slice none 0 0] 25 wl5.heap.size (by first | (simp; done) | rfl)
        replace HT := Lib.hid T'
        replace Hr := Lib.hid (Hr.out.move (by decide) K')
        replace Hq := Lib.hid (Hq.out.move (by decide) K')
        replace HK := Lib.hid (HK.out.move (by decide) K')
        clear T' K'
        replace hz : w.heap.size + 1 + 1 ≤ ((wl5.alloc (.cells #[.int .i64 m, .slice none 0 0] 25))).heap.size := Nat.le_trans hz (by simp)
        clear r_h q_h z_h
        generalize (wl5.alloc (.cells #[.int .i64 m, .slice none 0 0] 25)) = Wo at *
        obtain ⟨T', K'⟩ := HT.out.nilRow w.heap.size 41 2
        replace HT := Lib.hid T'
        replace Hr := Lib.hid (Hr.out.move (by decide) K')
        replace Hq := Lib.hid (Hq.out.move (by decide) K')
        replace HK := Lib.hid (HK.out.move (by decide) K')
        clear T' K'
        have hH0 : Held obE Wo (Fr w.heap.size [.row w.heap.size 41 2 (.slice none 0 0) 0 (cat []), .blk wl5.heap.size #[.int .i64 m, .slice none 0 0] 25, .blk (Ws.heap.size + 1) #[.map (some Ws.heap.size)] 61, mapR Try.prog 3 3 (.int .i64 0) Ws.heap.size K.length (fun x => .int .i64 (plM 0 K x)), .blk (w.heap.size + 1) #[.int .i64 0, .slice none 0 0] 25, .blk w.heap.size #[.int .i64 m, .slice A os.length c] 25]) [] ((K.take 0).map (keptO os K)) := Held.nil
        have HO := Lib.hid hH0
        clear hH0
        obtain ⟨r_out, q_out, -, -, -, -, r_h, q_h, -⟩ := HT.out.rules
        have z_out : wl5.heap.size < Wo.heap.size := (HT.out.in_ 1 rfl rfl).2
        have z_h : w.heap.size < Wo.heap.size := (HT.out.in_ 5 rfl rfl).2
        go_wp2_with fail
        go_loopw [47] (fun i wl6 => ∃ (k : Nat) (vr : Value) (css : List (List Value)), i = .int .i64 k ∧ k ≤ K.length ∧ St w.heap.size w wl6 [.row w.heap.size 41 2 vr k (cat css), .blk wl5.heap.size #[.int .i64 m, vr] 25, .blk (Ws.heap.size + 1) #[.map (some Ws.heap.size)] 61, mapR Try.prog 3 3 (.int .i64 0) Ws.heap.size K.length (fun x => .int .i64 (plM 0 K x)), .blk (w.heap.size + 1) #[.int .i64 0, .slice none 0 0] 25, .blk w.heap.size #[.int .i64 m, .slice A os.length c] 25] ∧ RdSl obE wl6 (Fr 0 [.row w.heap.size 41 2 vr k (cat css), .blk wl5.heap.size #[.int .i64 m, vr] 25, .blk (Ws.heap.size + 1) #[.map (some Ws.heap.size)] 61, mapR Try.prog 3 3 (.int .i64 0) Ws.heap.size K.length (fun x => .int .i64 (plM 0 K x)), .blk (w.heap.size + 1) #[.int .i64 0, .slice none 0 0] 25, .blk w.heap.size #[.int .i64 m, .slice A os.length c] 25]) (.slice A os.length c) os ∧ RdSl vE wl6 (Fr 0 [.row w.heap.size 41 2 vr k (cat css), .blk wl5.heap.size #[.int .i64 m, vr] 25, .blk (Ws.heap.size + 1) #[.map (some Ws.heap.size)] 61, mapR Try.prog 3 3 (.int .i64 0) Ws.heap.size K.length (fun x => .int .i64 (plM 0 K x)), .blk (w.heap.size + 1) #[.int .i64 0, .slice none 0 0] 25, .blk w.heap.size #[.int .i64 m, .slice A os.length c] 25]) (.slice R rs.length d) rs ∧ RdSl iE wl6 (Fr 0 [.row w.heap.size 41 2 vr k (cat css), .blk wl5.heap.size #[.int .i64 m, vr] 25, .blk (Ws.heap.size + 1) #[.map (some Ws.heap.size)] 61, mapR Try.prog 3 3 (.int .i64 0) Ws.heap.size K.length (fun x => .int .i64 (plM 0 K x)), .blk (w.heap.size + 1) #[.int .i64 0, .slice none 0 0] 25, .blk w.heap.size #[.int .i64 m, .slice A os.length c] 25]) (.slice R3 K.length c3) K ∧ Held obE wl6 (Fr w.heap.size [.row w.heap.size 41 2 vr k (cat css), .blk wl5.heap.size #[.int .i64 m, vr] 25, .blk (Ws.heap.size + 1) #[.map (some Ws.heap.size)] 61, mapR Try.prog 3 3 (.int .i64 0) Ws.heap.size K.length (fun x => .int .i64 (plM 0 K x)), .blk (w.heap.size + 1) #[.int .i64 0, .slice none 0 0] 25, .blk w.heap.size #[.int .i64 m, .slice A os.length c] 25]) css ((K.take k).map (keptO os K)) ∧ w.heap.size + 1 + 1 ≤ wl6.heap.size) (fun i _ => K.length - (intOf i).toNat)
        case atStart =>
          refine ⟨0, .slice none 0 0, [], ?_, ?_, ?_, ?_, ?_, ?_, ?_, ?_⟩
          · rfl
          · exact Nat.zero_le _
          · with_reducible exact HT.out
          · with_reducible exact Hr.out
          · with_reducible exact Hq.out
          · with_reducible exact HK.out
          · with_reducible exact HO.out
          · exact hz
        case round =>
          generalize wr = wl6 at *
          clear HT Hr Hq HK HO hz
          obtain ⟨k, vr, css, rfl, hk, ht, pHr, pHq, pHK, pHO, hz⟩ := hrel
          have HT := Lib.hid ht
          have Hr : Hid (RdSl obE wl6 (Fr 0 [.row w.heap.size 41 2 vr k (cat css), .blk wl5.heap.size #[.int .i64 m, vr] 25, .blk (Ws.heap.size + 1) #[.map (some Ws.heap.size)] 61, mapR Try.prog 3 3 (.int .i64 0) Ws.heap.size K.length (fun x => .int .i64 (plM 0 K x)), .blk (w.heap.size + 1) #[.int .i64 0, .slice none 0 0] 25, .blk w.heap.size #[.int .i64 m, .slice A os.length c] 25]) (.slice A os.length c) os) := Lib.hid pHr
          have Hq : Hid (RdSl vE wl6 (Fr 0 [.row w.heap.size 41 2 vr k (cat css), .blk wl5.heap.size #[.int .i64 m, vr] 25, .blk (Ws.heap.size + 1) #[.map (some Ws.heap.size)] 61, mapR Try.prog 3 3 (.int .i64 0) Ws.heap.size K.length (fun x => .int .i64 (plM 0 K x)), .blk (w.heap.size + 1) #[.int .i64 0, .slice none 0 0] 25, .blk w.heap.size #[.int .i64 m, .slice A os.length c] 25]) (.slice R rs.length d) rs) := Lib.hid pHq
          have HK : Hid (RdSl iE wl6 (Fr 0 [.row w.heap.size 41 2 vr k (cat css), .blk wl5.heap.size #[.int .i64 m, vr] 25, .blk (Ws.heap.size + 1) #[.map (some Ws.heap.size)] 61, mapR Try.prog 3 3 (.int .i64 0) Ws.heap.size K.length (fun x => .int .i64 (plM 0 K x)), .blk (w.heap.size + 1) #[.int .i64 0, .slice none 0 0] 25, .blk w.heap.size #[.int .i64 m, .slice A os.length c] 25]) (.slice R3 K.length c3) K) := Lib.hid pHK
          have HO : Hid (Held obE wl6 (Fr w.heap.size [.row w.heap.size 41 2 vr k (cat css), .blk wl5.heap.size #[.int .i64 m, vr] 25, .blk (Ws.heap.size + 1) #[.map (some Ws.heap.size)] 61, mapR Try.prog 3 3 (.int .i64 0) Ws.heap.size K.length (fun x => .int .i64 (plM 0 K x)), .blk (w.heap.size + 1) #[.int .i64 0, .slice none 0 0] 25, .blk w.heap.size #[.int .i64 m, .slice A os.length c] 25]) css ((K.take k).map (keptO os K))) := Lib.hid pHO
          clear ht pHr pHq pHK pHO
          obtain ⟨Av, cv, rfl⟩ := own_form (HT.out.own 0 rfl)
          replace Hr : Hid (RdSl obE wl6 (Fr 0 [.row w.heap.size 41 2 (.slice Av k cv) k (cat css), .blk wl5.heap.size #[.int .i64 m, .slice Av k cv] 25, .blk (Ws.heap.size + 1) #[.map (some Ws.heap.size)] 61, mapR Try.prog 3 3 (.int .i64 0) Ws.heap.size K.length (fun x => .int .i64 (plM 0 K x)), .blk (w.heap.size + 1) #[.int .i64 0, .slice none 0 0] 25, .blk w.heap.size #[.int .i64 m, .slice A os.length c] 25]) (.slice A os.length c) os) := Hr
          replace Hq : Hid (RdSl vE wl6 (Fr 0 [.row w.heap.size 41 2 (.slice Av k cv) k (cat css), .blk wl5.heap.size #[.int .i64 m, .slice Av k cv] 25, .blk (Ws.heap.size + 1) #[.map (some Ws.heap.size)] 61, mapR Try.prog 3 3 (.int .i64 0) Ws.heap.size K.length (fun x => .int .i64 (plM 0 K x)), .blk (w.heap.size + 1) #[.int .i64 0, .slice none 0 0] 25, .blk w.heap.size #[.int .i64 m, .slice A os.length c] 25]) (.slice R rs.length d) rs) := Hq
          replace HK : Hid (RdSl iE wl6 (Fr 0 [.row w.heap.size 41 2 (.slice Av k cv) k (cat css), .blk wl5.heap.size #[.int .i64 m, .slice Av k cv] 25, .blk (Ws.heap.size + 1) #[.map (some Ws.heap.size)] 61, mapR Try.prog 3 3 (.int .i64 0) Ws.heap.size K.length (fun x => .int .i64 (plM 0 K x)), .blk (w.heap.size + 1) #[.int .i64 0, .slice none 0 0] 25, .blk w.heap.size #[.int .i64 m, .slice A os.length c] 25]) (.slice R3 K.length c3) K) := HK
          replace HO : Hid (Held obE wl6 (Fr w.heap.size [.row w.heap.size 41 2 (.slice Av k cv) k (cat css), .blk wl5.heap.size #[.int .i64 m, .slice Av k cv] 25, .blk (Ws.heap.size + 1) #[.map (some Ws.heap.size)] 61, mapR Try.prog 3 3 (.int .i64 0) Ws.heap.size K.length (fun x => .int .i64 (plM 0 K x)), .blk (w.heap.size + 1) #[.int .i64 0, .slice none 0 0] 25, .blk w.heap.size #[.int .i64 m, .slice A os.length c] 25]) css ((K.take k).map (keptO os K))) := HO
          by_cases hlt : k < K.length
          · obtain ⟨x, hx⟩ : ∃ x, K[k]? = some x := ⟨K[k], List.getElem?_eq_getElem hlt⟩
            obtain ⟨b, o, rfl, _, _, y0⟩ := HK.out.at_i hx
            have hxw := Hin.out x (List.mem_of_getElem? hx)
            obtain ⟨j, rfl⟩ : ∃ j : Nat, x = (j : Int) := ⟨x.toNat, by omega⟩
            obtain ⟨ob, hob⟩ : ∃ ob, os[j]? = some ob := ⟨_, List.getElem?_eq_getElem (show j < os.length by omega)⟩
            obtain ⟨pb, po, Bf, df, rfl, _, _, y1, y2, hfd⟩ := Hr.out.at_o hob
            have hko : keptO os K (j : Int) = ⟨ob.fields.map (newV (plM 0 K)), ob.dead⟩ := by simp [keptO, fieldsOf, deadAt, hob]
            have hfin : ∀ v ∈ ob.fields, v.k = 2 → 0 ≤ v.n ∧ v.n < 60 := fun v hv hk => by have := Hok.out.fields ob (List.mem_of_getElem? hob) v hv hk; omega
            have HX := Lib.hid hx
            have Hko := Lib.hid hko
            have Hfin := Lib.hid hfin
            have Hfd := Lib.hid hfd
            obtain ⟨-, f1, f2, f3⟩ := hfd.lims
            have hf4 : ob.fields.length * 16 ≤ 140737488355328 := f3
            clear hx hob hko hfin hfd f3
            have i1 : (0 : Int) ≤ (k : Int) := by omega
            have i2 : (k : Int) < (K.length : Int) := by omega
            have i3 : (0 : Int) ≤ (j : Int) := by omega
            have i4 : (j : Int) < (os.length : Int) := by omega
            obtain ⟨r_out, q_out, -, -, -, -, r_h, q_h, -⟩ := HT.out.rules
            have z_out : wl5.heap.size < wl6.heap.size := (HT.out.in_ 1 rfl rfl).2
            have z_h : w.heap.size < wl6.heap.size := (HT.out.in_ 5 rfl rfl).2
            go_upto_region 18 with fail
            obtain ⟨T', K'⟩ := HT.out.new' #[.slice Bf ob.fields.length df, .bool ob.dead] 41 wl6.heap.size (by first | (simp; done) | rfl)
            replace HT := Lib.hid T'
            replace Hq := Lib.hid (Hq.out.move (by decide) K')
            replace HO := Lib.hid (HO.out.move K')
            replace HK := Lib.hid (HK.out.move (by decide) K')
            replace Hr := Lib.hid (Hr.out.move (by decide) K')
            replace Hfd := Lib.hid (Hfd.out.move (by decide) K')
            clear T' K'
            replace hz : w.heap.size + 1 + 1 ≤ ((wl6.alloc (.cells #[.slice Bf ob.fields.length df, .bool ob.dead] 41))).heap.size := Nat.le_trans hz (by simp)
            clear r_out q_out r_h q_h z_out z_h
            generalize (wl6.alloc (.cells #[.slice Bf ob.fields.length df, .bool ob.dead] 41)) = Wx at *
            clear y0 y1 y2
            obtain ⟨r_o, q_o, r_out, q_out, -, -, -, -, r_h, q_h, -⟩ := HT.out.rules
            have z_o : wl6.heap.size < Wx.heap.size := (HT.out.in_ 0 rfl rfl).2
            have z_out : wl5.heap.size < Wx.heap.size := (HT.out.in_ 2 rfl rfl).2
            have z_h : w.heap.size < Wx.heap.size := (HT.out.in_ 6 rfl rfl).2
            refine wp_region_plan [.still [0, 1, 2, 3, 4, 6, 7], .loud 5 [0, 1, 6, 7], .still [8], .loud 9 [0, 1], .loud 10 [], .still [11], .loud 12 []] (by kernel_rfl) (by kernel_rfl) ?_
            refine plan_still ?_
            simp only [pick, List.getElem?_toArray, List.getElem?_cons_succ, List.getElem?_cons_zero]
            repeat still_step
            refine wpStill_nil ?_
            refine plan_loud ?_
            simp only [pick, List.getElem?_toArray, List.getElem?_cons_succ, List.getElem?_cons_zero]
            go_wp2_with fail
            obtain ⟨T', K'⟩ := HT.out.drew'
            replace HT := Lib.hid T'
            replace Hq := Lib.hid (Hq.out.move (by decide) K')
            replace HO := Lib.hid (HO.out.move K')
            replace HK := Lib.hid (HK.out.move (by decide) K')
            replace Hr := Lib.hid (Hr.out.move (by decide) K')
            replace Hfd := Lib.hid (Hfd.out.move (by decide) K')
            clear T' K'
            replace hz : w.heap.size + 1 + 1 ≤ Wx.drew.heap.size := hz
            have hmp := Lib.hid (HT.out.map 4 rfl)
            refine (moved_any (plM 0 K) _ _ _ _ _ _ _ _ Hfd.out (cell_of_row _ _ 0 _ _ _ (HT.out.heap 3 rfl)) hmp.out Hfin.out).mono ?_
            rintro en W7 ⟨vf, rfl, hown, hb⟩
            obtain ⟨Af, cf, rfl⟩ := own_formV hown
            have hrd := hown.rd.keep (S' := fun b => (Wx.drew).heap.size ≤ b) (by decide) (fun b _ h => ⟨h.elim (fun h => h.elim) id, rfl⟩)
            clear hown hmp
            clear r_o q_o r_out q_out r_h q_h z_o z_out z_h
            have Hfresh := Lib.hid (HT.out)
            have hzo : w.heap.size ≤ Wx.drew.heap.size := by omega
            obtain ⟨T', K'⟩ := HT.out.call hb
            replace HT := Lib.hid T'
            replace Hq := Lib.hid (Hq.out.move (by decide) K')
            replace HO := Lib.hid (HO.out.move K')
            replace HK := Lib.hid (HK.out.move (by decide) K')
            replace Hr := Lib.hid (Hr.out.move (by decide) K')
            replace Hfd := Lib.hid (Hfd.out.move (by decide) K')
            clear T' K'
            replace hz : w.heap.size + 1 + 1 ≤ W7.heap.size := Nat.le_trans hz hb.size
            clear hb
            have HF : Hid (RdSl vE W7 (Fr w.heap.size [.blk wl6.heap.size #[.slice Bf ob.fields.length df, .bool ob.dead] 41, .row w.heap.size 41 2 (.slice Av k cv) k (cat css), .blk wl5.heap.size #[.int .i64 m, .slice Av k cv] 25, .blk (Ws.heap.size + 1) #[.map (some Ws.heap.size)] 61, mapR Try.prog 3 3 (.int .i64 0) Ws.heap.size K.length (fun x => .int .i64 (plM 0 K x)), .blk (w.heap.size + 1) #[.int .i64 0, .slice none 0 0] 25, .blk w.heap.size #[.int .i64 m, .slice (some ⟨pb, po, none⟩) os.length c] 25]) (.slice Af (ob.fields.map (newV (plM 0 K))).length cf) (ob.fields.map (newV (plM 0 K)))) := Lib.hid (hrd.fresh (by first | decide | (show 0 < 1; omega)) Hfresh.out hzo)
            clear hrd
            clear Hfresh hzo
            obtain ⟨r_o, q_o, r_out, q_out, -, -, -, -, r_h, q_h, -⟩ := HT.out.rules
            have z_o : wl6.heap.size < W7.heap.size := (HT.out.in_ 0 rfl rfl).2
            have z_out : wl5.heap.size < W7.heap.size := (HT.out.in_ 2 rfl rfl).2
            have z_h : w.heap.size < W7.heap.size := (HT.out.in_ 6 rfl rfl).2
            rw [List.length_map] at HF
            rw [List.length_map]
            go_wp2_with fail
            refine ⟨?_, ?_⟩
            · simp only [Again, pick, List.getElem?_toArray, List.getElem?_cons_succ, List.getElem?_cons_zero]
              refine ⟨?_, ?_, ?_, ?_, trivial⟩
              all_goals (still_step; exact wpStill_nil rfl)
            refine plan_still ?_
            simp only [pick, List.getElem?_toArray, List.getElem?_cons_succ, List.getElem?_cons_zero]
            repeat still_step
            refine wpStill_nil ?_
            refine plan_loud ?_
            simp only [pick, List.getElem?_toArray, List.getElem?_cons_succ, List.getElem?_cons_zero]
            go_wp2_with fail
            refine ⟨?_, ?_⟩
            · simp only [Again, pick, List.getElem?_toArray, List.getElem?_cons_succ, List.getElem?_cons_zero]
              refine ⟨?_, ?_, trivial⟩
              all_goals (still_step; exact wpStill_nil rfl)
            refine plan_loud ?_
            simp only [pick, List.getElem?_toArray, List.getElem?_cons_succ, List.getElem?_cons_zero]
            go_wp2_with (at_builtin; go_loud (refine wpList_append_css rfl (.tmp 57) (.tmp 65) _ rfl (e := 41) (size := 2) (bytes := 32) Try.underlying23 infoO rfl (by omega) HT.out 1 rfl rfl [Value.slice Af ob.fields.length cf, Value.bool ob.dead] 41 rfl rfl (by simp [Value.oneCell']) (by unfold maxLen; omega) (by omega) HT.out.base ?next))
            case next =>
              intro A9 c9 wg T' K' hs3
              clear r_o q_o r_out q_out r_h q_h z_o z_out z_h
              replace T' : St w.heap.size w wg [.blk wl6.heap.size #[.slice Bf ob.fields.length df, .bool ob.dead] 41, .row w.heap.size 41 2 (.slice A9 (k + 1) c9) (k + 1) (cat (css ++ [[Value.slice Af ob.fields.length cf, Value.bool ob.dead]])), .blk wl5.heap.size #[.int .i64 m, .slice Av k cv] 25, .blk (Ws.heap.size + 1) #[.map (some Ws.heap.size)] 61, mapR Try.prog 3 3 (.int .i64 0) Ws.heap.size K.length (fun x => .int .i64 (plM 0 K x)), .blk (w.heap.size + 1) #[.int .i64 0, .slice none 0 0] 25, .blk w.heap.size #[.int .i64 m, .slice (some ⟨pb, po, none⟩) os.length c] 25] := T'
              replace K' : Keeps W7 [.blk wl6.heap.size #[.slice Bf ob.fields.length df, .bool ob.dead] 41, .row w.heap.size 41 2 (.slice Av k cv) k (cat css), .blk wl5.heap.size #[.int .i64 m, .slice Av k cv] 25, .blk (Ws.heap.size + 1) #[.map (some Ws.heap.size)] 61, mapR Try.prog 3 3 (.int .i64 0) Ws.heap.size K.length (fun x => .int .i64 (plM 0 K x)), .blk (w.heap.size + 1) #[.int .i64 0, .slice none 0 0] 25, .blk w.heap.size #[.int .i64 m, .slice (some ⟨pb, po, none⟩) os.length c] 25] wg [.blk wl6.heap.size #[.slice Bf ob.fields.length df, .bool ob.dead] 41, .row w.heap.size 41 2 (.slice A9 (k + 1) c9) (k + 1) (cat (css ++ [[Value.slice Af ob.fields.length cf, Value.bool ob.dead]])), .blk wl5.heap.size #[.int .i64 m, .slice Av k cv] 25, .blk (Ws.heap.size + 1) #[.map (some Ws.heap.size)] 61, mapR Try.prog 3 3 (.int .i64 0) Ws.heap.size K.length (fun x => .int .i64 (plM 0 K x)), .blk (w.heap.size + 1) #[.int .i64 0, .slice none 0 0] 25, .blk w.heap.size #[.int .i64 m, .slice (some ⟨pb, po, none⟩) os.length c] 25] := K'
              replace HT := Lib.hid T'
              replace Hq := Lib.hid (Hq.out.move (by decide) K')
              replace HO := Lib.hid (HO.out.move K')
              replace HK := Lib.hid (HK.out.move (by decide) K')
              replace Hr := Lib.hid (Hr.out.move (by decide) K')
              replace Hfd := Lib.hid (Hfd.out.move (by decide) K')
              replace HF := Lib.hid (HF.out.move (by decide) K')
              replace hz : w.heap.size + 1 + 1 ≤ wg.heap.size := by omega
              clear T' K'
              have hnew : Held obE wg (Fr w.heap.size [.blk wl6.heap.size #[.slice Bf ob.fields.length df, .bool ob.dead] 41, .row w.heap.size 41 2 (.slice A9 (k + 1) c9) (k + 1) (cat (css ++ [[Value.slice Af ob.fields.length cf, Value.bool ob.dead]])), .blk wl5.heap.size #[.int .i64 m, .slice Av k cv] 25, .blk (Ws.heap.size + 1) #[.map (some Ws.heap.size)] 61, mapR Try.prog 3 3 (.int .i64 0) Ws.heap.size K.length (fun x => .int .i64 (plM 0 K x)), .blk (w.heap.size + 1) #[.int .i64 0, .slice none 0 0] 25, .blk w.heap.size #[.int .i64 m, .slice (some ⟨pb, po, none⟩) os.length c] 25]) (css ++ [[Value.slice Af ob.fields.length cf, Value.bool ob.dead]]) ((K.take (k + 1)).map (keptO os K)) := by
                rw [List.take_add_one, HX.out]
                simp only [Option.toList_some, List.map_append, List.map_cons, List.map_nil, Hko.out]
                exact HO.out.append (Held.single (E := obE) (cs := [Value.slice Af ob.fields.length cf, Value.bool ob.dead]) (x := ⟨ob.fields.map (newV (plM 0 K)), ob.dead⟩) rfl ⟨_, rfl, by simpa using HF.out⟩)
              replace HO := Lib.hid hnew
              clear hnew HF Hfd
              obtain ⟨-, -, r_out, q_out, -⟩ := HT.out.rules
              have z_out : wl5.heap.size < wg.heap.size := (HT.out.in_ 2 rfl rfl).2
              go_wp2_with fail
              refine ⟨trivial, ?_⟩
              refine plan_still ?_
              simp only [pick, List.getElem?_toArray, List.getElem?_cons_succ, List.getElem?_cons_zero]
              repeat still_step
              refine wpStill_nil ?_
              refine plan_loud ?_
              simp only [pick, List.getElem?_toArray, List.getElem?_cons_succ, List.getElem?_cons_zero]
              go_wp2_with fail
              clear r_out q_out z_out
              obtain ⟨T', K'⟩ := HT.out.put 2 1 (.slice A9 (k + 1) c9) rfl
              simp only [List.set_cons_succ, List.set_cons_zero, List.setIfInBounds_toArray] at T' K'
              replace HT := Lib.hid T'
              replace Hq := Lib.hid (Hq.out.move (by decide) K')
              replace HK := Lib.hid (HK.out.move (by decide) K')
              replace Hr := Lib.hid (Hr.out.move (by decide) K')
              replace HO := Lib.hid (HO.out.move K')
              clear T' K'
              replace hz : w.heap.size + 1 + 1 ≤ ((wg.setCell ⟨wl5.heap.size, 1, none⟩ (.slice A9 (k + 1) c9))).heap.size := by simpa using hz
              generalize wg.setCell ⟨wl5.heap.size, 1, none⟩ (.slice A9 (k + 1) c9) = wh at *
              refine ⟨trivial, ?_⟩
              refine plan_end (NoPanic.normal ?_)
              obtain ⟨T', K'⟩ := HT.out.drop 0
              simp only [List.eraseIdx_cons_zero] at T' K'
              replace HT := Lib.hid T'
              replace Hq := Lib.hid (Hq.out.move (by decide) K')
              replace HK := Lib.hid (HK.out.move (by decide) K')
              replace Hr := Lib.hid (Hr.out.move (by decide) K')
              replace HO := Lib.hid (HO.out.move K')
              clear T' K'
              go_wp2_with fail
              go_roundw
              case rel =>
                refine ⟨k + 1, .slice A9 (k + 1) c9, css ++ [[Value.slice Af ob.fields.length cf, Value.bool ob.dead]], ?_, ?_, ?_, ?_, ?_, ?_, ?_, ?_⟩
                · go_num
                · omega
                · with_reducible exact HT.out
                · with_reducible exact Hr.out
                · with_reducible exact Hq.out
                · with_reducible exact HK.out
                · with_reducible exact HO.out
                · exact hz
              case measure => simp [intOf]; omega
          · have hkk : k = K.length := by omega
            subst hkk
            rw [List.take_length] at HO
            clear hk hlt
            replace Hr : Hid (RdSl obE wl6 (Fr 0 [.row w.heap.size 41 2 (.slice Av K.length cv) K.length (cat css), .blk wl5.heap.size #[.int .i64 m, .slice Av K.length cv] 25, .blk (Ws.heap.size + 1) #[.map (some Ws.heap.size)] 61, mapR Try.prog 3 3 (.int .i64 0) Ws.heap.size K.length (fun x => .int .i64 (plM 0 K x)), .blk (w.heap.size + 1) #[.int .i64 0, .slice none 0 0] 25, .blk w.heap.size #[.int .i64 m, .slice A os.length c] 25]) (.slice A os.length c) os) := Hr
            replace Hq : Hid (RdSl vE wl6 (Fr 0 [.row w.heap.size 41 2 (.slice Av K.length cv) K.length (cat css), .blk wl5.heap.size #[.int .i64 m, .slice Av K.length cv] 25, .blk (Ws.heap.size + 1) #[.map (some Ws.heap.size)] 61, mapR Try.prog 3 3 (.int .i64 0) Ws.heap.size K.length (fun x => .int .i64 (plM 0 K x)), .blk (w.heap.size + 1) #[.int .i64 0, .slice none 0 0] 25, .blk w.heap.size #[.int .i64 m, .slice A os.length c] 25]) (.slice R rs.length d) rs) := Hq
            replace HK : Hid (RdSl iE wl6 (Fr 0 [.row w.heap.size 41 2 (.slice Av K.length cv) K.length (cat css), .blk wl5.heap.size #[.int .i64 m, .slice Av K.length cv] 25, .blk (Ws.heap.size + 1) #[.map (some Ws.heap.size)] 61, mapR Try.prog 3 3 (.int .i64 0) Ws.heap.size K.length (fun x => .int .i64 (plM 0 K x)), .blk (w.heap.size + 1) #[.int .i64 0, .slice none 0 0] 25, .blk w.heap.size #[.int .i64 m, .slice A os.length c] 25]) (.slice R3 K.length c3) K) := HK
            replace HO : Hid (Held obE wl6 (Fr w.heap.size [.row w.heap.size 41 2 (.slice Av K.length cv) K.length (cat css), .blk wl5.heap.size #[.int .i64 m, .slice Av K.length cv] 25, .blk (Ws.heap.size + 1) #[.map (some Ws.heap.size)] 61, mapR Try.prog 3 3 (.int .i64 0) Ws.heap.size K.length (fun x => .int .i64 (plM 0 K x)), .blk (w.heap.size + 1) #[.int .i64 0, .slice none 0 0] 25, .blk w.heap.size #[.int .i64 m, .slice A os.length c] 25]) css (K.map (keptO os K))) := HO
            obtain ⟨r_out, q_out, -, -, r_rH, q_rH, -⟩ := HT.out.rules
            have z_out : wl5.heap.size < wl6.heap.size := (HT.out.in_ 1 rfl rfl).2
            have z_rH : w.heap.size + 1 < wl6.heap.size := (HT.out.in_ 4 rfl rfl).2
            go_wp2_with fail
            refine wp_region_plan [.still [0, 1, 2], .loud 3 [0], .loud 4 [], .still [5, 6]] (by kernel_rfl) (by kernel_rfl) ?_
            refine plan_still ?_
            simp only [pick, List.getElem?_toArray, List.getElem?_cons_succ, List.getElem?_cons_zero]
            repeat still_step
            refine wpStill_nil ?_
            refine plan_loud ?_
            simp only [pick, List.getElem?_toArray, List.getElem?_cons_succ, List.getElem?_cons_zero]
            go_wp2_with fail
            obtain ⟨T', K'⟩ := HT.out.drew'
            replace HT := Lib.hid T'
            replace Hr := Lib.hid (Hr.out.move (by decide) K')
            replace Hq := Lib.hid (Hq.out.move (by decide) K')
            replace HK := Lib.hid (HK.out.move (by decide) K')
            replace HO := Lib.hid (HO.out.move K')
            clear T' K'
            replace hz : w.heap.size + 1 + 1 ≤ wl6.drew.heap.size := hz
            have hmp := Lib.hid (HT.out.map 3 rfl)
            refine (moved_any (plM 0 K) _ _ _ _ _ _ _ _ Hq.out (cell_of_row _ _ 0 _ _ _ (HT.out.heap 2 rfl)) hmp.out (fun v hv hk => by have := Hok.out.roots v hv hk; omega)).mono ?_
            rintro en W8 ⟨vf, rfl, hown, hb⟩
            obtain ⟨Af, cf, rfl⟩ := own_formV hown
            have hrd := hown.rd.keep (S' := fun b => (wl6.drew).heap.size ≤ b) (by decide) (fun b _ h => ⟨h.elim (fun h => h.elim) id, rfl⟩)
            clear hown hmp
            clear r_out q_out r_rH q_rH z_out z_rH
            have Hfresh := Lib.hid (HT.out)
            have hzo : w.heap.size ≤ wl6.drew.heap.size := by omega
            obtain ⟨T', K'⟩ := HT.out.call hb
            replace HT := Lib.hid T'
            replace Hr := Lib.hid (Hr.out.move (by decide) K')
            replace Hq := Lib.hid (Hq.out.move (by decide) K')
            replace HK := Lib.hid (HK.out.move (by decide) K')
            replace HO := Lib.hid (HO.out.move K')
            clear T' K'
            replace hz : w.heap.size + 1 + 1 ≤ W8.heap.size := Nat.le_trans hz hb.size
            clear hb
            have HF : Hid (RdSl vE W8 (Fr w.heap.size [.row w.heap.size 41 2 (.slice Av K.length cv) K.length (cat css), .blk wl5.heap.size #[.int .i64 m, .slice Av K.length cv] 25, .blk (Ws.heap.size + 1) #[.map (some Ws.heap.size)] 61, mapR Try.prog 3 3 (.int .i64 0) Ws.heap.size K.length (fun x => .int .i64 (plM 0 K x)), .blk (w.heap.size + 1) #[.int .i64 0, .slice none 0 0] 25, .blk w.heap.size #[.int .i64 m, .slice A os.length c] 25]) (.slice Af (rs.map (newV (plM 0 K))).length cf) (rs.map (newV (plM 0 K)))) := Lib.hid (hrd.fresh (by first | decide | (show 0 < 1; omega)) Hfresh.out hzo)
            clear hrd
            clear Hfresh hzo
            obtain ⟨r_out, q_out, -, -, r_rH, q_rH, -⟩ := HT.out.rules
            have z_out : wl5.heap.size < W8.heap.size := (HT.out.in_ 1 rfl rfl).2
            have z_rH : w.heap.size + 1 < W8.heap.size := (HT.out.in_ 4 rfl rfl).2
            rw [List.length_map] at HF
            rw [List.length_map]
            go_wp2_with fail
            refine ⟨?_, ?_⟩
            · simp only [Again, pick, List.getElem?_toArray, List.getElem?_cons_zero]
              refine ⟨?_, trivial⟩
              all_goals (still_step; exact wpStill_nil rfl)
            refine plan_loud ?_
            simp only [pick, List.getElem?_toArray, List.getElem?_cons_succ, List.getElem?_cons_zero]
            go_wp2_with fail
            clear r_out q_out r_rH q_rH z_out z_rH
            obtain ⟨T', K'⟩ := HT.out.put2 4 (.int .i64 m) (.slice Av K.length cv) rfl rfl
            simp only [List.set_cons_succ, List.set_cons_zero] at T' K'
            replace HT := Lib.hid T'
            replace Hr := Lib.hid (Hr.out.move (by decide) K')
            replace Hq := Lib.hid (Hq.out.move (by decide) K')
            replace HK := Lib.hid (HK.out.move (by decide) K')
            replace HO := Lib.hid (HO.out.move K')
            replace HF := Lib.hid (HF.out.move (by decide) K')
            clear T' K'
            replace hz : w.heap.size + 1 + 1 ≤ (((W8.setCell ⟨w.heap.size + 1, 0, none⟩ (.int .i64 m)).setCell ⟨w.heap.size + 1, 1, none⟩ (.slice Av K.length cv))).heap.size := by simpa using hz
            generalize (W8.setCell ⟨w.heap.size + 1, 0, none⟩ (.int .i64 m)).setCell ⟨w.heap.size + 1, 1, none⟩ (.slice Av K.length cv) = wz at *
            obtain ⟨r_out, q_out, -, -, r_rH, q_rH, -⟩ := HT.out.rules
            have z_out : wl5.heap.size < wz.heap.size := (HT.out.in_ 1 rfl rfl).2
            have z_rH : w.heap.size + 1 < wz.heap.size := (HT.out.in_ 4 rfl rfl).2
            refine ⟨trivial, ?_⟩
            refine plan_still ?_
            simp only [pick, List.getElem?_toArray, List.getElem?_cons_succ, List.getElem?_cons_zero]
            repeat still_step
            refine wpStill_nil ?_
            refine plan_end (NoPanic.normal ?_)
            go_wp2_with fail
            have hA := HT.out.rdRow (E := obE) (n := w.heap.size) 0 rfl rfl (by simp) HO.out (by show (K.map (keptO os K)).length * 32 ≤ _; rw [List.length_map]; omega) (Nat.le_refl _) (by decide)
            refine bodyPost_ret (v := .tuple #[.agg #[.int .i64 m, .slice Av K.length cv], .slice Af rs.length cf, .int .i64 0]) (by simp [results, Try.results13, go_sem, r_rH]) rfl ?_
            rw [HP.out]
            exact ⟨_, _, _, rfl, RdH.of hA (by simp), HF.out.from_ (by decide), HT.out.below⟩
  · have hf : hpB ⟨m, os⟩ rs = false := by simpa using hp
    have Hf := Lib.hid hf
    have HC := Lib.hid (checkN_none hf)
    clear hf hp
    go_enter Try.func13, Try.ntmps13
    go_upto_region 1 with fail
    generalize ((w.alloc (.cells #[.int .i64 m, .slice A os.length c] 25)).alloc (.cells #[.int .i64 0, .slice none 0 0] 25)) = W1 at *
    obtain ⟨r_rH, q_rH, r_h, q_h, -⟩ := HT.out.rules
    have z_rH : w.heap.size + 1 < W1.heap.size := (HT.out.in_ 0 rfl rfl).2
    have z_h : w.heap.size < W1.heap.size := (HT.out.in_ 1 rfl rfl).2
    go_wp2_with fail
    refine (check_is m _ _ A R c d os rs _ _ HC.out Hr.out Hq.out).mono ?_
    rintro en W2 ⟨rfl, hb⟩
    clear r_rH q_rH r_h q_h z_rH z_h
    obtain ⟨T', K'⟩ := HT.out.call hb
    replace HT := Lib.hid T'
    replace Hr := Lib.hid (Hr.out.move (by decide) K')
    replace Hq := Lib.hid (Hq.out.move (by decide) K')
    clear T' K'
    replace hz : w.heap.size + 1 + 1 ≤ W2.heap.size := Nat.le_trans hz hb.size
    clear hb
    obtain ⟨r_rH, q_rH, r_h, q_h, -⟩ := HT.out.rules
    have z_rH : w.heap.size + 1 < W2.heap.size := (HT.out.in_ 0 rfl rfl).2
    have z_h : w.heap.size < W2.heap.size := (HT.out.in_ 1 rfl rfl).2
    go_wp2_with fail
    clear r_rH q_rH r_h q_h z_rH z_h
    obtain ⟨T', K'⟩ := HT.out.put2 0 (.int .i64 0) (.slice none 0 0) rfl rfl
    simp only [List.set_cons_zero] at T' K'
    replace HT := Lib.hid T'
    replace Hr := Lib.hid (Hr.out.move (by decide) K')
    replace Hq := Lib.hid (Hq.out.move (by decide) K')
    clear T' K'
    replace hz : w.heap.size + 1 + 1 ≤ (((W2.setCell ⟨w.heap.size + 1, 0, none⟩ (.int .i64 0)).setCell ⟨w.heap.size + 1, 1, none⟩ (.slice none 0 0))).heap.size := by simpa using hz
    generalize (W2.setCell ⟨w.heap.size + 1, 0, none⟩ (.int .i64 0)).setCell ⟨w.heap.size + 1, 1, none⟩ (.slice none 0 0) = We at *
    obtain ⟨r_rH, q_rH, r_h, q_h, -⟩ := HT.out.rules
    have z_rH : w.heap.size + 1 < We.heap.size := (HT.out.in_ 0 rfl rfl).2
    have z_h : w.heap.size < We.heap.size := (HT.out.in_ 1 rfl rfl).2
    refine bodyPost_ret (v := .tuple #[.agg #[.int .i64 0, .slice none 0 0], .slice none 0 0, .int .i64 8]) (by simp [results, Try.results13, go_sem, r_rH]) rfl ?_
    unfold CollD collV collH collE
    rw [if_pos Hf.out, if_pos Hf.out, if_pos Hf.out]
    exact ⟨_, none, 0, rfl, .zero, RdSl.nil, HT.out.below⟩
end Go.Proofs.Ytabcjdalifhpdaa
