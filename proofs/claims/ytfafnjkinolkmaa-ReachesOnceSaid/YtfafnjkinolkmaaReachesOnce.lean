/- THE STATEMENT 'ReachesOnce': for every input the call returns true, and each argument reads behind it as it did: proved out of the walks. No condition beside the row's own. -/
import Derived.Test.YtfafnjkinolkmaaHeapK
import Derived.Test.YtfafnjkinolkmaaHeapTells
import Derived.Test.YtfafnjkinolkmaaContI
import Derived.Test.YtfafnjkinolkmaaReachD
import Derived.Test.YtfafnjkinolkmaaLedP
import Derived.Test.YtfafnjkinolkmaaSetGetsP
import Derived.Test.YtfafnjkinolkmaaArgs
import Derived.Test.YtfafnjkinolkmaaFacts
set_option maxRecDepth 100000
namespace Go.Proofs.Ytfafnjkinolkmaa.lawReachesOnce
open Go.ChangeShapes Go.WideShapes Go.ChangeAt Go.RowKit
set_option linter.unusedVariables false

theorem below_al {w : World} {cs : Array Value} {t : TypeId} : Below w.heap.size w (w.alloc (.cells cs t)) := (Below.refl _ _).alloc (Nat.le_refl _) _
theorem rd_three {w : World} {b : Nat} {v x y : V} {t : TypeId} (h : w.heap[b]? = some (.cells #[.int .i64 v.k, .int .i64 v.n, .int .i64 x.k, .int .i64 x.n, .int .i64 y.k, .int .i64 y.n] t (0, 0))) : RdSl vE w (fun _ => True) (.slice (some ⟨b, 0, none⟩) [v, x, y].length 3) [v, x, y] := by
  refine ⟨some ⟨b, 0, none⟩, 3, rfl, Nat.le_refl _, by unfold maxLen; omega, by simp [vE], fun _ => ⟨b, 0, rfl, trivial, fun i z hz => ?_⟩⟩
  match i, hz with
  | 0, hz => cases hz; exact ⟨_, rfl, rfl, fun j u hu => by match j, hu with | 0, hu => (cases hu; simp [World.cell?, h, vE]) | 1, hu => (cases hu; simp [World.cell?, h, vE])⟩
  | 1, hz => cases hz; exact ⟨_, rfl, rfl, fun j u hu => by match j, hu with | 0, hu => (cases hu; simp [World.cell?, h, vE]) | 1, hu => (cases hu; simp [World.cell?, h, vE])⟩
  | 2, hz => cases hz; exact ⟨_, rfl, rfl, fun j u hu => by match j, hu with | 0, hu => (cases hu; simp [World.cell?, h, vE]) | 1, hu => (cases hu; simp [World.cell?, h, vE])⟩
  | n + 3, hz => simp at hz

set_option maxHeartbeats 8000000 in
theorem walk (w : World) (l : List Rw) (A : Option Addr) (c : Nat) (hp : RdSl rwE w (fun _ => True) (.slice A l.length c) l) (a : Int) (ha : -9223372036854775808 ≤ a ∧ a ≤ 9223372036854775807) (b : Int) (hb : -9223372036854775808 ≤ b ∧ b ≤ 9223372036854775807) :
    Calls Try.prog 6 #[.slice A l.length c, .int .i64 a, .int .i64 b] w fun e w' => e = .returned (.bool true) ∧ Below w.heap.size w w' := by
  have Hp := Lib.hid hp
  clear hp
  go_enter Try.func6, Try.ntmps6
  go_wp2_with fail
  refine (heapTells_any _).mono ?_
  rintro e w0 ⟨rfl, hb0⟩
  have G1 := Lib.hid (heapK_any 40 (by omega) _ A c l w0 (Hp.out.below (by decide) hb0))
  unfold HeapKD at G1
  go_wp2_with fail
  refine G1.out.mono ?_
  rintro e w1 ⟨os, A1, c1, B1, d1, rfl, hgood, hos, hall, hb1⟩
  obtain ⟨l1, l2⟩ := hgood.lim
  have z1 := hb1.size
  have L1 := (Locs.nil (w := w1)).new (cs := #[.int .i64 40, .slice A1 os.length c1]) (t := 26) rfl
  have hB1 : Below w.heap.size w (w1.alloc (.cells #[.int .i64 40, .slice A1 os.length c1] 26)) := (below_after hb0 hb1).alloc (by have := hb0.size; omega) _
  have R1 := hos.below (by decide) (below_al (cs := #[.int .i64 40, .slice A1 os.length c1]) (t := 26))
  have V1 := hall.below (by decide) (below_al (cs := #[.int .i64 40, .slice A1 os.length c1]) (t := 26))
  have z2 : w1.heap.size + 1 = (w1.alloc (.cells #[.int .i64 40, .slice A1 os.length c1] 26)).heap.size := by simp
  clear hos hall G1
  have HL1 := Lib.hid L1
  have HR1 := Lib.hid R1
  have HV1 := Lib.hid V1
  clear L1 R1 V1
  by_cases h0 : os.length = 0
  · have e0 : ((os.length : Int) == 0) = true := by simp [h0]
    clear h0 hgood
    go_wp2_with fail
    go_ret
    exact ⟨rfl, hB1⟩
  have e0 : ((os.length : Int) == 0) = false := by simpa using h0
  obtain ⟨p1, hp1⟩ : ∃ p, p = pickN a os.length := ⟨_, rfl⟩
  have hp1' := pickN_lt a os.length (by omega)
  have G1 := Lib.hid (fun W => picked_any a os.length ha.1 ha.2 (by omega) (by omega) W)
  rw [← hp1] at G1 hp1'
  obtain ⟨p2, hp2⟩ : ∃ p, p = pickN b os.length := ⟨_, rfl⟩
  have hp2' := pickN_lt b os.length (by omega)
  have G2 := Lib.hid (fun W => picked_any b os.length hb.1 hb.2 (by omega) (by omega) W)
  rw [← hp2] at G2 hp2'
  clear hp1 hp2 ha hb
  obtain ⟨i, rfl⟩ := Int.eq_ofNat_of_zero_le hp1'.1
  obtain ⟨j, rfl⟩ := Int.eq_ofNat_of_zero_le hp2'.1
  obtain ⟨i1, i2⟩ := hp1'
  obtain ⟨j1, j2⟩ := hp2'
  have hv5 : valB os.length ⟨1, 5⟩ = true := by simp [valB, wordB]
  have hroots : hpB ⟨40, os⟩ [⟨2, (i : Int)⟩, ⟨1, 5⟩, ⟨2, (j : Int)⟩] = true := good_hp hgood (by simp only [List.all_cons, List.all_nil, ref_val (show i < os.length by omega), ref_val (show j < os.length by omega), hv5, Bool.and_true])
  have hok := hpB_refs hroots
  obtain ⟨r, hled, htold⟩ := led_ex hok.fields os.length _ [] .nil hok.roots (by simp)
  have hR : reachR ⟨40, os⟩ [⟨2, (i : Int)⟩, ⟨1, 5⟩, ⟨2, (j : Int)⟩] = r := by
    unfold reachR
    rw [if_pos hroots]
    exact reachL_is hled
  have hC : checkN ⟨40, os⟩ [⟨2, (i : Int)⟩, ⟨1, 5⟩, ⟨2, (j : Int)⟩] = 0 := by simp [checkN, hroots]
  have hfirst := hled.first rfl
  have hmem : (j : Int) ∈ r := hled.roots ⟨2, (j : Int)⟩ (by simp) rfl
  have G3 := Lib.hid (fun W S T R d (h : RdSl obE W S (.slice A1 os.length c1) os) (h' : RdSl vE W T (.slice R 3 d) [⟨2, (i : Int)⟩, ⟨1, 5⟩, ⟨2, (j : Int)⟩]) => reachD_any 40 S T A1 R c1 d os [⟨2, (i : Int)⟩, ⟨1, 5⟩, ⟨2, (j : Int)⟩] W h h')
  unfold ReachD at G3
  rw [hR, hC] at G3
  dsimp only [List.length] at G3
  have Hshut := Lib.hid hled.shut
  have Htold := Lib.hid htold
  have Hfirst := Lib.hid hfirst
  have Hmem := Lib.hid hmem
  clear hroots hok hled htold hR hC hfirst hmem hgood h0
  go_upto_region 6 with fail
  generalize w1.alloc (.cells #[.int .i64 40, .slice A1 os.length c1] 26) = W1 at *
  clear hb1 z1
  generalize w1.heap.size = b7 at *
  clear w1
  obtain ⟨q, o, hq, _, _, c0, c1'⟩ := HV1.out.at_v (refsTo_at (n := os.length) (i := i) (by omega))
  obtain ⟨rfl⟩ := hq
  obtain ⟨q', o', hq, _, _, c2, c3⟩ := HV1.out.at_v (refsTo_at (n := os.length) (i := j) (by omega))
  obtain ⟨rfl⟩ := hq
  dsimp only at c0 c1' c2 c3
  have hd : Below W1.heap.size W1 W1.drew := (Below.refl _ _).drew
  refine wp_region_plan [.still [0, 1, 2, 3, 7, 8, 9, 10, 11], .loud 4 [0, 7, 8, 9, 10, 11], .still [5, 6], .loud 12 [0, 7, 8, 5, 6], .still [13, 14], .loud 15 [], .still [16]] (by kernel_rfl) (by kernel_rfl) ?_
  refine plan_still ?_
  simp only [pick, List.getElem?_toArray, List.getElem?_cons_succ, List.getElem?_cons_zero]
  repeat still_step
  refine wpStill_nil ?_
  refine plan_loud ?_
  simp only [pick, List.getElem?_toArray, List.getElem?_cons_succ, List.getElem?_cons_zero]
  go_wp2_with fail
  refine (G1.out _).mono ?_
  rintro e w' ⟨rfl, rfl⟩
  go_wp2_with fail
  refine ⟨?_, ?_⟩
  · simp only [Again, pick, List.getElem?_toArray, List.getElem?_cons_succ, List.getElem?_cons_zero]
    refine ⟨?_, ?_, ?_, ?_, ?_, ?_, trivial⟩
    all_goals (still_step; exact wpStill_nil rfl)
  refine plan_still ?_
  simp only [pick, List.getElem?_toArray, List.getElem?_cons_succ, List.getElem?_cons_zero]
  repeat still_step
  refine wpStill_nil ?_
  refine plan_loud ?_
  simp only [pick, List.getElem?_toArray, List.getElem?_cons_succ, List.getElem?_cons_zero]
  go_wp2_with fail
  refine (G2.out _).mono ?_
  rintro e w' ⟨rfl, rfl⟩
  go_wp2_with fail
  refine ⟨?_, ?_⟩
  · simp only [Again, pick, List.getElem?_toArray, List.getElem?_cons_succ, List.getElem?_cons_zero]
    refine ⟨?_, ?_, ?_, ?_, ?_, trivial⟩
    all_goals (still_step; exact wpStill_nil rfl)
  refine plan_still ?_
  simp only [pick, List.getElem?_toArray, List.getElem?_cons_succ, List.getElem?_cons_zero]
  repeat still_step
  refine wpStill_nil ?_
  refine plan_loud ?_
  simp only [pick, List.getElem?_toArray, List.getElem?_cons_succ, List.getElem?_cons_zero]
  go_wp2_with fail
  refine ⟨trivial, ?_⟩
  refine plan_still ?_
  simp only [pick, List.getElem?_toArray, List.getElem?_cons_succ, List.getElem?_cons_zero]
  repeat still_step
  refine wpStill_nil ?_
  refine plan_end (NoPanic.normal ?_)
  have hz10 : ((W1.alloc (.cells #[.int .i64 2, .int .i64 (i : Int), .int .i64 1, .int .i64 5, .int .i64 2, .int .i64 (j : Int)] 31)).drew).heap.size = W1.heap.size + 1 := by simp
  have hq9 : ((W1.alloc (.cells #[.int .i64 2, .int .i64 (i : Int), .int .i64 1, .int .i64 5, .int .i64 2, .int .i64 (j : Int)] 31)).drew).heap[W1.heap.size]? = some (.cells #[.int .i64 2, .int .i64 (i : Int), .int .i64 1, .int .i64 5, .int .i64 2, .int .i64 (j : Int)] 31 (0, 0)) := blk_at rfl
  have hb2 : Below W1.heap.size W1 (W1.alloc (.cells #[.int .i64 2, .int .i64 (i : Int), .int .i64 1, .int .i64 5, .int .i64 2, .int .i64 (j : Int)] 31)).drew := ((Below.refl _ _).alloc (Nat.le_refl _) _).drew
  generalize (W1.alloc (.cells #[.int .i64 2, .int .i64 (i : Int), .int .i64 1, .int .i64 5, .int .i64 2, .int .i64 (j : Int)] 31)).drew = W2 at *
  have HT := Lib.hid (rd_three (v := ⟨2, (i : Int)⟩) (x := ⟨1, 5⟩) (y := ⟨2, (j : Int)⟩) hq9)
  have hB2 := below_after hB1 hb2
  have HL2 := Lib.hid (HL1.out.after hb2)
  have HR2 := Lib.hid (HR1.out.below (by decide) hb2)
  generalize W1.heap.size = b9 at *
  clear hq9 c0 c1' c2 c3 hd HL1 HR1 HV1 G1 G2
  obtain ⟨r7, -, -⟩ := HL2.out.rules
  dsimp only at r7
  go_wp2_with fail
  refine (G3.out _ _ _ _ _ HR2.out HT.out).mono ?_
  rintro e w3 ⟨A3, c3, rfl, hr3, hb3⟩
  have hB3 := below_after hB2 hb3
  have HL3 := Lib.hid (HL2.out.after hb3)
  have HR3 := Lib.hid (HR2.out.below (by decide) hb3)
  have HT3 := Lib.hid (HT.out.below (by decide) hb3)
  have HI3 := Lib.hid hr3
  obtain ⟨-, s1, s2, -⟩ := hr3.lims
  clear hr3 r7 HL2 HR2 HT hb3 G3
  go_wp2_with fail
  go_loopw [50] (fun i wr => ∃ k : Nat, k ≤ r.length ∧ i = .int .i64 k ∧ Below w3.heap.size w3 wr) (fun i _ => r.length - (intOf i).toNat)
  case atStart => exact ⟨0, by omega, rfl, Below.refl _ _⟩
  case round =>
    obtain ⟨k, hk, rfl, hb⟩ := hrel
    generalize wr = wo at *
    have hB4 := below_after hB3 hb
    obtain ⟨r7, -, -⟩ := (HL3.out.after hb).rules
    dsimp only at r7
    by_cases hlt : k < r.length
    · obtain ⟨n, hn⟩ : ∃ n, r[k]? = some n := ⟨r[k], List.getElem?_eq_getElem hlt⟩
      obtain ⟨tb, tq, rfl, _, _, y0⟩ := (HI3.out.below (by decide) hb).at_i hn
      have hnm := List.mem_of_getElem? hn
      obtain ⟨n1, n2⟩ := Htold.out.within n hnm
      obtain ⟨t, rfl⟩ := Int.eq_ofNat_of_zero_le n1
      obtain ⟨ob, hob⟩ : ∃ o, os[t]? = some o := ⟨_, List.getElem?_eq_getElem (by omega)⟩
      obtain ⟨qb, qo, B, dd, rfl, _, hbs, x0, x1, hfl⟩ := (HR3.out.below (by decide) hb).at_o hob
      obtain ⟨-, f1, f2, -⟩ := hfl.lims
      have hni : decide ((t : Int) ∈ r.take k) = false := by
        rw [decide_eq_false_iff_not]
        intro hm
        obtain ⟨m, hm⟩ := List.getElem?_of_mem hm
        rw [List.getElem?_take] at hm
        split at hm
        · rename_i hmk
          obtain ⟨hml, hme⟩ := List.getElem?_eq_some_iff.1 hm
          obtain ⟨hkl, hke⟩ := List.getElem?_eq_some_iff.1 hn
          exact List.pairwise_iff_getElem.1 Htold.out.nodup m k hml hkl hmk (by rw [hme, hke])
        · cases hm
      have G4 := containsI_is _ _ _ (r.take k) (t : Int) wo false hni ((HI3.out.below (by decide) hb).take_i hk)
      rw [show (r.take k).length = k by simp; omega] at G4
      have HG4 := Lib.hid G4
      have hfo : fieldsOf os (t : Int) = ob.fields := by simp [fieldsOf, hob]
      have hsh := Hshut.out _ hnm
      rw [hfo] at hsh
      have Hsh := Lib.hid hsh
      have Hfl := Lib.hid hfl
      have k1 : (0 : Int) ≤ (k : Int) := by omega
      have k2 : (k : Int) < (r.length : Int) := by omega
      clear hn hnm hni G4 hfo hsh hfl hob
      go_wp2_with fail
      refine HG4.out.mono ?_
      rintro e w' ⟨rfl, rfl⟩
      go_wp2_with fail
      go_loopw [67] (fun i wz => ∃ q : Nat, q ≤ ob.fields.length ∧ i = .int .i64 q ∧ Below w'.heap.size w' wz) (fun i _ => ob.fields.length - (intOf i).toNat)
      case atStart => exact ⟨0, by omega, rfl, Below.refl _ _⟩
      case round =>
        obtain ⟨q, hq, rfl, hbz⟩ := hrel
        by_cases hlt2 : q < ob.fields.length
        · obtain ⟨x, hx⟩ : ∃ x, ob.fields[q]? = some x := ⟨ob.fields[q], List.getElem?_eq_getElem hlt2⟩
          obtain ⟨vb, vo, rfl, _, _, v0, v1⟩ := (Hfl.out.below (by decide) hbz).at_v hx
          have hz2 := hbz.alloc hbz.size (.cells #[.int .i64 x.k, .int .i64 x.n] 31)
          have q1 : (0 : Int) ≤ (q : Int) := by omega
          have q2 : (q : Int) < (ob.fields.length : Int) := by omega
          by_cases hk2 : x.k = 2
          · have hkb : (x.k == 2) = true := by simpa using hk2
            have G5 := Lib.hid (containsI_is _ _ _ r x.n _ true (decide_eq_true (Hsh.out x (List.mem_of_getElem? hx) hk2)) (((HI3.out.below (by decide) hb).below (by decide) hz2)))
            clear hx hk2
            go_wp2_with fail
            refine G5.out.mono ?_
            rintro e w'' ⟨rfl, rfl⟩
            go_wp2_with fail
            go_roundw
            case rel => exact ⟨q + 1, by omega, by go_num, hz2⟩
            case measure => simp [intOf]; omega
          · have hkb : (x.k == 2) = false := by simpa using hk2
            clear hx hk2
            go_wp2_with fail
            go_roundw
            case rel => exact ⟨q + 1, by omega, by go_num, hz2⟩
            case measure => simp [intOf]; omega
        · have q2 : ¬ (q : Int) < (ob.fields.length : Int) := by omega
          go_wp2_with fail
          go_roundw
          case rel => exact ⟨k + 1, by omega, by go_num, hb.trans (hbz.mono hb.size)⟩
          case measure => simp [intOf]; omega
    · have k2 : ¬ (k : Int) < (r.length : Int) := by omega
      have hr0 : (0 : Int) < (r.length : Int) := by
        have := (List.getElem?_eq_some_iff.1 Hfirst.out).1
        omega
      have hr1 : 0 < r.length := by omega
      have hr2 : r ≠ [] := fun e => by rw [e] at hr1; exact Nat.lt_irrefl _ hr1
      obtain ⟨tb, tq, rfl, _, _, y0⟩ := (HI3.out.below (by decide) hb).at_i Hfirst.out
      obtain ⟨qb, qo, hq, _, _, v0, v1⟩ := (HT3.out.below (by decide) hb).at_v (i := 0) rfl
      obtain ⟨rfl⟩ := hq
      obtain ⟨qb', qo', hq, _, _, v2, v3⟩ := (HT3.out.below (by decide) hb).at_v (i := 2) rfl
      obtain ⟨rfl⟩ := hq
      simp only [Nat.add_zero, Nat.zero_mul, Nat.zero_add, Nat.reduceMul, Nat.reduceAdd] at y0 v0 v1 v2 v3
      have ei : ((i : Int) == (i : Int)) = true := by simp
      have hd : Below wo.heap.size wo wo.drew := (Below.refl _ _).drew
      have G6 := Lib.hid (containsI_is _ _ _ r (j : Int) wo.drew true (decide_eq_true Hmem.out) ((HI3.out.below (by decide) hb).below (by decide) hd))
      go_wp2_with fail
      refine wp_region_plan [.still [0, 1, 2, 3, 4, 5, 6, 7, 8, 9, 10, 11, 12, 13, 14, 15, 16, 17], .loud 18 [], .still [19, 20]] (by kernel_rfl) (by kernel_rfl) ?_
      refine plan_still ?_
      simp only [pick, List.getElem?_toArray, List.getElem?_cons_succ, List.getElem?_cons_zero]
      repeat still_step
      refine wpStill_nil ?_
      refine plan_loud ?_
      simp only [pick, List.getElem?_toArray, List.getElem?_cons_succ, List.getElem?_cons_zero]
      go_wp2_with fail
      refine G6.out.mono ?_
      rintro e w' ⟨rfl, rfl⟩
      go_wp2_with fail
      refine ⟨trivial, ?_⟩
      refine plan_still ?_
      simp only [pick, List.getElem?_toArray, List.getElem?_cons_succ, List.getElem?_cons_zero]
      repeat still_step
      refine wpStill_nil ?_
      refine plan_end (NoPanic.normal ?_)
      go_wp2_with fail
      go_ret
      exact ⟨rfl, hB4.drew⟩

theorem lifted (os : Os) (started : os.Started) (H : Type) (enc : TypeId × Value → H) :
    ReturnsInHanded {} Try.checked os 6 .any (Rows.reachesOnceSpec.pre6 enc Try.prog Try.f6 Rows.reachesOnceRow.domain false) (Rows.reachesOnceSpec.post enc Try.prog Try.f6 false true false false) := by
  refine returnsInHanded_of_change_sized (C := Try.checked) own started (by kernel_rfl) Try.func6
    (ChangeSpec.witness6 (enc := enc) (C := Try.checked) false ⟨#[], #[.slice none 0 0, .int .i64 0, .int .i64 0], []⟩ 8 (by kernel_rfl) (by kernel_rfl) (by kernel_rfl) (by kernel_rfl)) ?_
  intro W base args ds gs before hval0 hW _ hsz0 _
  have hval : ∀ (j : Nat) t v, Try.f6.params[j]? = some t → args[j]? = some v → Value.okWide Try.prog W .any base t v := hval0
  have hsz : (DataW.weightsEach Try.prog (Try.f6.params.toList ++ Rows.reachesOnceSpec.plain.varTypes Try.prog) (ds ++ gs)).all (· ≤ reachBytes) = true := hsz0
  have hW' := hW
  obtain ⟨p, q, hA0, hV, rfl, hfz, hnd⟩ := hW
  have hA : DataW.TrodAll enc Try.prog W 0 (fun _ => true) true Try.f6.params.toList args.toList ds p := hA0
  rw [Try.params6] at hA hval hsz
  obtain ⟨v0, vs0, d0, ds0, p0, q0, hargs, rfl, rfl, h0, r0⟩ := trodAll_cons hA
  obtain ⟨v1, vs1, d1, ds1, p1, q1, rfl, rfl, rfl, h1, r1⟩ := trodAll_cons r0
  obtain ⟨v2, vs2, d2, ds2, p2, q2, rfl, rfl, rfl, h2, r2⟩ := trodAll_cons r1
  obtain ⟨rfl, rfl, rfl⟩ := trodAll_nil r2
  obtain rfl : args = #[v0, v1, v2] := by cases args; simp_all
  obtain ⟨rfl, rfl⟩ := trodVars_none hV
  obtain ⟨x0, A0, c0, rfl, y0⟩ := arg_rs h0 (hval 0 22 v0 rfl rfl) (sized_at hsz (j := 0) rfl rfl)
  obtain ⟨a1, rfl, -, -, w1⟩ := open_int Try.underlying3 (hval 1 3 v1 rfl rfl) h1
  obtain ⟨a2, rfl, -, -, w2⟩ := open_int Try.underlying3 (hval 2 3 v2 rfl rfl) h2
  clear hA0 hval0 hsz0
  refine (walk W x0 A0 c0 y0 a1 (wf_i64_range w1) a2 (wf_i64_range w2)).mono fun e W' ⟨he, hb⟩ => ?_
  subst he
  exact ⟨_, rfl, law_post (tb := 4) laidOut Try.underlying4 (by kernel_rfl) (by rw [Try.params6]; exact all_types (by kernel_rfl)) rfl hW' rfl hb⟩

theorem closed : joinedFacts Try.prog 6 Try.f6 Rows.reachesOnceSpec Rows.reachesOnceRow = true :=
  facts_of (by kernel_rfl) laidOut fact_rowed (by kernel_rfl) (by kernel_rfl) (by kernel_rfl) fact_stops (by kernel_rfl) fact_knobs (by kernel_rfl) (by kernel_rfl) (by kernel_rfl) (by kernel_rfl) (by kernel_rfl) (by kernel_rfl) (by kernel_rfl) (by kernel_rfl) (by kernel_rfl) (by kernel_rfl) (by kernel_rfl) (by kernel_rfl) (by kernel_rfl) (by kernel_rfl) (by kernel_rfl) fact_heard fact_may (by rw [fact_lifts]; rfl) fact_make ⟨rfl, rfl⟩ (by kernel_rfl) (by kernel_rfl) (by kernel_rfl)
theorem over : Rows.reachesOnceRow.holds Try.pinned (OpenSpec.ofChange Rows.reachesOnceSpec) :=
  OpenClaim.holds_of_wide 6 Try.f6 rfl rfl rfl rfl rfl rfl rfl ⟨rfl, rfl, rfl, rfl, rfl⟩ rfl rfl rfl rfl rfl (by kernel_rfl) Try.func6 closed
    (of_decide_eq_true (by kernel_rfl)) (by unfold Func.isWrapper; first | (rw [if_pos (by decide +kernel)]; kernel_rfl) | (rw [if_neg (by decide +kernel)]; exact ⟨rfl, rfl⟩))
    (fun os started H enc _ => lifted os started H enc)
/-- THE STATEMENT. -/
theorem proved : Rows.ReachesOnceSaid := over
#print axioms proved
end Go.Proofs.Ytfafnjkinolkmaa.lawReachesOnce
