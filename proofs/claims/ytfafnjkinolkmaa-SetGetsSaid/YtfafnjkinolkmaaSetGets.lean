/- THE STATEMENT 'SetGets': for every input the call returns true, and each argument reads behind it as it did: proved out of the walks. No condition beside the row's own. -/
import Derived.Test.YtfafnjkinolkmaaHeapK
import Derived.Test.YtfafnjkinolkmaaSetGetsP
import Derived.Test.YtfafnjkinolkmaaArgs
import Derived.Test.YtfafnjkinolkmaaFacts
set_option maxRecDepth 100000
namespace Go.Proofs.Ytfafnjkinolkmaa.lawSetGets
open Go.ChangeShapes Go.WideShapes Go.ChangeAt Go.RowKit
set_option linter.unusedVariables false

theorem below_al {w : World} {cs : Array Value} {t : TypeId} : Below w.heap.size w (w.alloc (.cells cs t)) := (Below.refl _ _).alloc (Nat.le_refl _) _

set_option maxHeartbeats 8000000 in
theorem walk (w : World) (l : List Rw) (A : Option Addr) (c : Nat) (hp : RdSl rwE w (fun _ => True) (.slice A l.length c) l) (a : Int) (ha : -9223372036854775808 ≤ a ∧ a ≤ 9223372036854775807) (b : Int) (hb : -9223372036854775808 ≤ b ∧ b ≤ 9223372036854775807)
    (f : Int) (hf : -9223372036854775808 ≤ f ∧ f ≤ 9223372036854775807) (g : Int) (hg : -9223372036854775808 ≤ g ∧ g ≤ 9223372036854775807) (n : Int) (hn : -9223372036854775808 ≤ n ∧ n ≤ 9223372036854775807) :
    Calls Try.prog 4 #[.slice A l.length c, .int .i64 a, .int .i64 b, .int .i64 f, .int .i64 g, .int .i64 n] w fun e w' => e = .returned (.bool true) ∧ Below w.heap.size w w' := by
  have G1 := Lib.hid (heapK_any 30 (by omega) _ A c l w hp)
  clear hp
  unfold HeapKD at G1
  go_enter Try.func4, Try.ntmps4
  go_wp2_with fail
  refine G1.out.mono ?_
  rintro e w1 ⟨os, A1, c1, B1, d1, rfl, hgood, hos, hall, hb1⟩
  obtain ⟨l1, l2⟩ := hgood.lim
  have z1 := hb1.size
  have L1 := (Locs.nil (w := w1)).new (cs := #[.int .i64 30, .slice A1 os.length c1]) (t := 26) rfl
  have hB1 : Below w.heap.size w (w1.alloc (.cells #[.int .i64 30, .slice A1 os.length c1] 26)) := hb1.alloc z1 _
  have R1 := hos.below (by decide) (below_al (cs := #[.int .i64 30, .slice A1 os.length c1]) (t := 26))
  have V1 := hall.below (by decide) (below_al (cs := #[.int .i64 30, .slice A1 os.length c1]) (t := 26))
  have z2 : w.heap.size + 1 ≤ (w1.alloc (.cells #[.int .i64 30, .slice A1 os.length c1] 26)).heap.size := by simp; omega
  clear hos hall G1
  have HL1 := Lib.hid L1
  have HR1 := Lib.hid R1
  have HV1 := Lib.hid V1
  have Hgood := Lib.hid hgood
  clear L1 R1 V1 hgood
  by_cases h0 : os.length = 0
  · have e0 : ((os.length : Int) == 0) = true := by simp [h0]
    clear h0
    go_wp2_with fail
    go_ret
    exact ⟨rfl, hB1⟩
  have e0 : ((os.length : Int) == 0) = false := by simpa using h0
  obtain ⟨p1, hp1⟩ : ∃ p, p = pickN a os.length := ⟨_, rfl⟩
  have hp1' := pickN_lt a os.length (by omega)
  have G1 := Lib.hid (fun W => picked_any a os.length ha.1 ha.2 (by omega) (by omega) W)
  rw [← hp1] at G1 hp1'
  obtain ⟨p2, hp2⟩ : ∃ p, p = pickN b os.length := ⟨_, rfl⟩
  have hp2' := pickN_lt b os.length (by omega)
  have G2 := Lib.hid (fun W => picked_any b os.length hb.1 hb.2 (by omega) (by omega) W)
  rw [← hp2] at G2 hp2'
  obtain ⟨p3, hp3⟩ : ∃ p, p = pickN f 4 := ⟨_, rfl⟩
  have hp3' := pickN_lt f 4 (by omega)
  have G3 := Lib.hid (fun W => picked_any f 4 hf.1 hf.2 (by omega) (by omega) W)
  rw [← hp3] at G3 hp3'
  obtain ⟨p4, hp4⟩ : ∃ p, p = pickN g 4 := ⟨_, rfl⟩
  have hp4' := pickN_lt g 4 (by omega)
  have G4 := Lib.hid (fun W => picked_any g 4 hg.1 hg.2 (by omega) (by omega) W)
  rw [← hp4] at G4 hp4'
  obtain ⟨p5, hp5⟩ : ∃ p, p = pickN n 1000 := ⟨_, rfl⟩
  have hp5' := pickN_lt n 1000 (by omega)
  have G5 := Lib.hid (fun W => picked_any n 1000 hn.1 hn.2 (by omega) (by omega) W)
  rw [← hp5] at G5 hp5'
  clear hp1 hp2 hp3 hp4 hp5 ha hb hf hg hn
  obtain ⟨i, rfl⟩ := Int.eq_ofNat_of_zero_le hp1'.1
  obtain ⟨j, rfl⟩ := Int.eq_ofNat_of_zero_le hp2'.1
  obtain ⟨i1, i2⟩ := hp1'
  obtain ⟨j1, j2⟩ := hp2'
  obtain ⟨f1, f2⟩ := hp3'
  obtain ⟨g1, g2⟩ := hp4'
  have LAW := set_gets Hgood.out (i := i) (j := j) (by omega) (by omega) f1 g1 (x := ⟨1, p5⟩) (by simp [valB, wordB]; omega)
  have LAW2 : (setE ⟨30, os⟩ ⟨2, (i : Int)⟩ p3 ⟨1, p5⟩ ≠ 0 → setE ⟨30, os⟩ ⟨2, (i : Int)⟩ p3 ⟨1, p5⟩ = 2 ∧ ∃ o, os[i]? = some o ∧ (o.fields.length : Int) ≤ p3) ∧
      (setE ⟨30, os⟩ ⟨2, (i : Int)⟩ p3 ⟨1, p5⟩ = 0 →
        (i = j ∧ p3 = p4 → gotE (setH ⟨30, os⟩ ⟨2, (i : Int)⟩ p3 ⟨1, p5⟩).most (setH ⟨30, os⟩ ⟨2, (i : Int)⟩ p3 ⟨1, p5⟩).objs ⟨2, (j : Int)⟩ p4 = 0 ∧ gotV (setH ⟨30, os⟩ ⟨2, (i : Int)⟩ p3 ⟨1, p5⟩).most (setH ⟨30, os⟩ ⟨2, (i : Int)⟩ p3 ⟨1, p5⟩).objs ⟨2, (j : Int)⟩ p4 = ⟨1, p5⟩) ∧
        (¬ (i = j ∧ p3 = p4) → gotE (setH ⟨30, os⟩ ⟨2, (i : Int)⟩ p3 ⟨1, p5⟩).most (setH ⟨30, os⟩ ⟨2, (i : Int)⟩ p3 ⟨1, p5⟩).objs ⟨2, (j : Int)⟩ p4 = gotE 30 os ⟨2, (j : Int)⟩ p4 ∧
          gotV (setH ⟨30, os⟩ ⟨2, (i : Int)⟩ p3 ⟨1, p5⟩).most (setH ⟨30, os⟩ ⟨2, (i : Int)⟩ p3 ⟨1, p5⟩).objs ⟨2, (j : Int)⟩ p4 = gotV 30 os ⟨2, (j : Int)⟩ p4)) := by
    refine ⟨LAW.1, fun h0 => ?_⟩
    have eH : setH ⟨30, os⟩ ⟨2, (i : Int)⟩ p3 ⟨1, p5⟩ = ⟨30, setOs os i p3.toNat ⟨1, p5⟩⟩ := if_pos h0
    rw [eH]
    exact LAW.2 h0
  clear LAW
  have G6 := Lib.hid (fun W S A c (h : RdSl obE W S (.slice A os.length c) os) => get_any 30 S A c os ⟨2, (j : Int)⟩ p4 W h)
  have G7 := Lib.hid (fun W S A c (h : RdSl obE W S (.slice A os.length c) os) => set_any 30 S A c os ⟨2, (i : Int)⟩ p3 ⟨1, p5⟩ W h)
  have G8 := Lib.hid (fun W S A c (h : RdSl obE W S (.slice A (setH ⟨30, os⟩ ⟨2, (i : Int)⟩ p3 ⟨1, p5⟩).objs.length c) (setH ⟨30, os⟩ ⟨2, (i : Int)⟩ p3 ⟨1, p5⟩).objs) => get_any (setH ⟨30, os⟩ ⟨2, (i : Int)⟩ p3 ⟨1, p5⟩).most S A c (setH ⟨30, os⟩ ⟨2, (i : Int)⟩ p3 ⟨1, p5⟩).objs ⟨2, (j : Int)⟩ p4 W h)
  unfold SetD at G7
  generalize setH ⟨30, os⟩ ⟨2, (i : Int)⟩ p3 ⟨1, p5⟩ = nh at *
  generalize setE ⟨30, os⟩ ⟨2, (i : Int)⟩ p3 ⟨1, p5⟩ = se at *
  generalize gotV 30 os ⟨2, (j : Int)⟩ p4 = x1 at *
  generalize gotE 30 os ⟨2, (j : Int)⟩ p4 = e1 at *
  generalize gotV nh.most nh.objs ⟨2, (j : Int)⟩ p4 = x2 at *
  generalize gotE nh.most nh.objs ⟨2, (j : Int)⟩ p4 = e2 at *
  have LAW := Lib.hid LAW2
  clear LAW2
  go_upto_region 2 with fail
  generalize w1.alloc (.cells #[.int .i64 30, .slice A1 os.length c1] 26) = W1 at *
  clear hb1
  generalize w1.heap.size = b13 at *
  clear w1
  obtain ⟨q, o, hq, _, _, c0, c1'⟩ := HV1.out.at_v (refsTo_at (n := os.length) (i := i) (by omega))
  obtain ⟨rfl⟩ := hq
  obtain ⟨q', o', hq, _, _, c2, c3⟩ := HV1.out.at_v (refsTo_at (n := os.length) (i := j) (by omega))
  obtain ⟨rfl⟩ := hq
  dsimp only at c0 c1' c2 c3
  have d2 := cell_al c2 (.cells #[.int .i64 2, .int .i64 (i : Int)] 31)
  have d3 := cell_al c3 (.cells #[.int .i64 2, .int .i64 (i : Int)] 31)
  go_wp2_with fail
  refine (G1.out _).mono ?_
  rintro e w' ⟨rfl, rfl⟩
  go_wp2_with fail
  refine (G2.out _).mono ?_
  rintro e w' ⟨rfl, rfl⟩
  go_wp2_with fail
  refine (G3.out _).mono ?_
  rintro e w' ⟨rfl, rfl⟩
  go_wp2_with fail
  refine (G4.out _).mono ?_
  rintro e w' ⟨rfl, rfl⟩
  go_wp2_with fail
  refine (G5.out _).mono ?_
  rintro e w' ⟨rfl, rfl⟩
  go_upto_region 9 with fail
  have HL2 := Lib.hid (((HL1.out.new (cs := #[.int .i64 2, .int .i64 (i : Int)]) (t := 31) rfl).new (cs := #[.int .i64 2, .int .i64 (j : Int)]) (t := 31) rfl).new (cs := #[.int .i64 1, .int .i64 p5]) (t := 31) rfl)
  have hb3 : Below W1.heap.size W1 (((W1.alloc (.cells #[.int .i64 2, .int .i64 (i : Int)] 31)).alloc (.cells #[.int .i64 2, .int .i64 (j : Int)] 31)).alloc (.cells #[.int .i64 1, .int .i64 p5] 31)) := (((Below.refl _ _).alloc (Nat.le_refl _) _).alloc (by simp) _).alloc (by simp; omega) _
  have HR3 := Lib.hid (HR1.out.below (by decide) hb3)
  have hB3 := below_after hB1 hb3
  have z3 : ((((W1.alloc (.cells #[.int .i64 2, .int .i64 (i : Int)] 31)).alloc (.cells #[.int .i64 2, .int .i64 (j : Int)] 31)).alloc (.cells #[.int .i64 1, .int .i64 p5] 31)).heap.size) = W1.heap.size + 1 + 1 + 1 := by simp
  clear hb3 c0 c1' c2 c3 d2 d3
  have hn16 : (W1.alloc (.cells #[.int .i64 2, .int .i64 (i : Int)] 31)).heap.size = W1.heap.size + 1 := by simp
  have hn19 : ((W1.alloc (.cells #[.int .i64 2, .int .i64 (i : Int)] 31)).alloc (.cells #[.int .i64 2, .int .i64 (j : Int)] 31)).heap.size = W1.heap.size + 1 + 1 := by simp
  rw [hn19, hn16] at HL2
  clear hn16 hn19
  generalize ((W1.alloc (.cells #[.int .i64 2, .int .i64 (i : Int)] 31)).alloc (.cells #[.int .i64 2, .int .i64 (j : Int)] 31)).alloc (.cells #[.int .i64 1, .int .i64 p5] 31) = W3 at *
  clear HL1 HR1 HV1
  generalize W1.heap.size = b15 at *
  obtain ⟨r19, -, r16, -, r15, -, r13, -, -⟩ := HL2.out.rules
  dsimp only at r19 r16 r15 r13
  go_wp2_with fail
  refine (G6.out _ _ _ _ HR3.out).mono ?_
  rintro e w4 ⟨rfl, hb4⟩
  have hB4 := below_after hB3 hb4
  have HL4 := Lib.hid ((HL2.out.after hb4).new (cs := #[.int .i64 x1.k, .int .i64 x1.n]) (t := 31) rfl)
  have hB4' := hB4.alloc hB4.size (.cells #[.int .i64 x1.k, .int .i64 x1.n] 31)
  have HR4 := Lib.hid ((HR3.out.below (by decide) hb4).below (by decide) (below_al (cs := #[.int .i64 x1.k, .int .i64 x1.n]) (t := 31)))
  have z4 : (w4.alloc (.cells #[.int .i64 x1.k, .int .i64 x1.n] 31)).heap.size = w4.heap.size + 1 := by simp
  have y4 : W3.heap.size ≤ w4.heap.size := hb4.size
  clear r19 r16 r15 r13 hb4
  go_upto_region 10 with fail
  generalize w4.alloc (.cells #[.int .i64 x1.k, .int .i64 x1.n] 31) = W4 at *
  generalize w4.heap.size = b20 at *
  obtain ⟨r20, -, r19, -, r16, -, r15, -, r13, -, -⟩ := HL4.out.rules
  dsimp only at r20 r19 r16 r15 r13
  go_wp2_with fail
  refine (G7.out _ _ _ _ HR4.out).mono ?_
  rintro e w5 ⟨u, rfl, ⟨A5, c5, rfl, hv5⟩, hb5⟩
  have hB5 := below_after hB4' hb5
  have HL5 := Lib.hid ((HL4.out.after hb5).new (cs := #[.int .i64 nh.most, .slice A5 nh.objs.length c5]) (t := 26) rfl)
  have hB5' := hB5.alloc hB5.size (.cells #[.int .i64 nh.most, .slice A5 nh.objs.length c5] 26)
  have HR5 := Lib.hid ((HR4.out.below (by decide) hb5).below (by decide) (below_al (cs := #[.int .i64 nh.most, .slice A5 nh.objs.length c5]) (t := 26)))
  have HV5 := Lib.hid (hv5.below (by decide) (below_al (cs := #[.int .i64 nh.most, .slice A5 nh.objs.length c5]) (t := 26)))
  have z5 : (w5.alloc (.cells #[.int .i64 nh.most, .slice A5 nh.objs.length c5] 26)).heap.size = w5.heap.size + 1 := by simp
  have y5 : W4.heap.size ≤ w5.heap.size := hb5.size
  clear r20 r19 r16 r15 r13 hb5 hv5
  go_upto_region 11 with fail
  generalize w5.alloc (.cells #[.int .i64 nh.most, .slice A5 nh.objs.length c5] 26) = W5 at *
  generalize w5.heap.size = b22 at *
  obtain ⟨r22, -, r20, -, r19, -, r16, -, r15, -, r13, -, -⟩ := HL5.out.rules
  dsimp only at r22 r20 r19 r16 r15 r13
  go_wp2_with fail
  refine (G8.out _ _ _ _ HV5.out).mono ?_
  rintro e w6 ⟨rfl, hb6⟩
  have hB6 := below_after hB5' hb6
  have HL6 := Lib.hid ((HL5.out.after hb6).new (cs := #[.int .i64 x2.k, .int .i64 x2.n]) (t := 31) rfl)
  have hB6' := hB6.alloc hB6.size (.cells #[.int .i64 x2.k, .int .i64 x2.n] 31)
  have HR6 := Lib.hid ((HR5.out.below (by decide) hb6).below (by decide) (below_al (cs := #[.int .i64 x2.k, .int .i64 x2.n]) (t := 31)))
  clear r22 r20 r19 r16 r15 r13 hb6
  go_upto_region 12 with fail
  generalize w6.alloc (.cells #[.int .i64 x2.k, .int .i64 x2.n] 31) = W6 at *
  generalize w6.heap.size = b24 at *
  obtain ⟨r24, -, r22, -, r20, -, r19, -, r16, -, r15, -, r13, -, -⟩ := HL6.out.rules
  dsimp only at r24 r22 r20 r19 r16 r15 r13
  by_cases hs : se = 0
  · obtain ⟨q1, q2⟩ := LAW.out.2 hs
    subst hs
    by_cases hij : i = j ∧ p3 = p4
    · obtain ⟨rfl, rfl⟩ := q1 hij
      obtain ⟨rfl, rfl⟩ := hij
      have t1 : ((i : Int) == (i : Int)) = true := by simp
      have t2 : (p3 == p3) = true := by simp
      have t3 : (p5 == p5) = true := by simp
      clear q1 q2
      go_wp2_with fail
      go_ret
      exact ⟨rfl, hB6'⟩
    · obtain ⟨rfl, rfl⟩ := q2 hij
      have t1 : (e2 == e2) = true := by simp
      have t2 : (x2.k == x2.k) = true := by simp
      have t3 : (x2.n == x2.n) = true := by simp
      clear q1 q2
      by_cases h1 : i = j
      · subst h1
        have t4 : ((i : Int) == (i : Int)) = true := by simp
        have t5 : (p3 == p4) = false := by simpa using hij
        go_wp2_with fail
        go_ret
        exact ⟨rfl, hB6'⟩
      · have t4 : ((i : Int) == (j : Int)) = false := by simp only [beq_eq_false_iff_ne, ne_eq]; omega
        go_wp2_with fail
        go_ret
        exact ⟨rfl, hB6'⟩
  · obtain ⟨rfl, ob, hob, hlen⟩ := LAW.out.1 hs
    obtain ⟨qb, qo, B, dd, rfl, _, hbs, y0, y1, hl⟩ := HR6.out.at_o hob
    go_wp2_with fail
    go_ret
    exact ⟨rfl, hB6'⟩

theorem lifted (os : Os) (started : os.Started) (H : Type) (enc : TypeId × Value → H) :
    ReturnsInHanded {} Try.checked os 4 .any (Rows.setGetsSpec.pre6 enc Try.prog Try.f4 Rows.setGetsRow.domain false) (Rows.setGetsSpec.post enc Try.prog Try.f4 false true false false) := by
  refine returnsInHanded_of_change_sized (C := Try.checked) own started (by kernel_rfl) Try.func4
    (ChangeSpec.witness6 (enc := enc) (C := Try.checked) false ⟨#[], #[.slice none 0 0, .int .i64 0, .int .i64 0, .int .i64 0, .int .i64 0, .int .i64 0], []⟩ 8 (by kernel_rfl) (by kernel_rfl) (by kernel_rfl) (by kernel_rfl)) ?_
  intro W base args ds gs before hval0 hW _ hsz0 _
  have hval : ∀ (j : Nat) t v, Try.f4.params[j]? = some t → args[j]? = some v → Value.okWide Try.prog W .any base t v := hval0
  have hsz : (DataW.weightsEach Try.prog (Try.f4.params.toList ++ Rows.setGetsSpec.plain.varTypes Try.prog) (ds ++ gs)).all (· ≤ reachBytes) = true := hsz0
  have hW' := hW
  obtain ⟨p, q, hA0, hV, rfl, hfz, hnd⟩ := hW
  have hA : DataW.TrodAll enc Try.prog W 0 (fun _ => true) true Try.f4.params.toList args.toList ds p := hA0
  rw [Try.params4] at hA hval hsz
  obtain ⟨v0, vs0, d0, ds0, p0, q0, hargs, rfl, rfl, h0, r0⟩ := trodAll_cons hA
  obtain ⟨v1, vs1, d1, ds1, p1, q1, rfl, rfl, rfl, h1, r1⟩ := trodAll_cons r0
  obtain ⟨v2, vs2, d2, ds2, p2, q2, rfl, rfl, rfl, h2, r2⟩ := trodAll_cons r1
  obtain ⟨v3, vs3, d3, ds3, p3, q3, rfl, rfl, rfl, h3, r3⟩ := trodAll_cons r2
  obtain ⟨v4, vs4, d4, ds4, p4, q4, rfl, rfl, rfl, h4, r4⟩ := trodAll_cons r3
  obtain ⟨v5, vs5, d5, ds5, p5, q5, rfl, rfl, rfl, h5, r5⟩ := trodAll_cons r4
  obtain ⟨rfl, rfl, rfl⟩ := trodAll_nil r5
  obtain rfl : args = #[v0, v1, v2, v3, v4, v5] := by cases args; simp_all
  obtain ⟨rfl, rfl⟩ := trodVars_none hV
  obtain ⟨x0, A0, c0, rfl, y0⟩ := arg_rs h0 (hval 0 22 v0 rfl rfl) (sized_at hsz (j := 0) rfl rfl)
  obtain ⟨a1, rfl, -, -, w1⟩ := open_int Try.underlying3 (hval 1 3 v1 rfl rfl) h1
  obtain ⟨a2, rfl, -, -, w2⟩ := open_int Try.underlying3 (hval 2 3 v2 rfl rfl) h2
  obtain ⟨a3, rfl, -, -, w3⟩ := open_int Try.underlying3 (hval 3 3 v3 rfl rfl) h3
  obtain ⟨a4, rfl, -, -, w4⟩ := open_int Try.underlying3 (hval 4 3 v4 rfl rfl) h4
  obtain ⟨a5, rfl, -, -, w5⟩ := open_int Try.underlying3 (hval 5 3 v5 rfl rfl) h5
  clear hA0 hval0 hsz0
  refine (walk W x0 A0 c0 y0 a1 (wf_i64_range w1) a2 (wf_i64_range w2) a3 (wf_i64_range w3) a4 (wf_i64_range w4) a5 (wf_i64_range w5)).mono fun e W' ⟨he, hb⟩ => ?_
  subst he
  exact ⟨_, rfl, law_post (tb := 4) laidOut Try.underlying4 (by kernel_rfl) (by rw [Try.params4]; exact all_types (by kernel_rfl)) rfl hW' rfl hb⟩

theorem closed : joinedFacts Try.prog 4 Try.f4 Rows.setGetsSpec Rows.setGetsRow = true :=
  facts_of (by kernel_rfl) laidOut fact_rowed (by kernel_rfl) (by kernel_rfl) (by kernel_rfl) fact_stops (by kernel_rfl) fact_knobs (by kernel_rfl) (by kernel_rfl) (by kernel_rfl) (by kernel_rfl) (by kernel_rfl) (by kernel_rfl) (by kernel_rfl) (by kernel_rfl) (by kernel_rfl) (by kernel_rfl) (by kernel_rfl) (by kernel_rfl) (by kernel_rfl) (by kernel_rfl) (by kernel_rfl) fact_heard fact_may (by rw [fact_lifts]; rfl) fact_make ⟨rfl, rfl⟩ (by kernel_rfl) (by kernel_rfl) (by kernel_rfl)
theorem over : Rows.setGetsRow.holds Try.pinned (OpenSpec.ofChange Rows.setGetsSpec) :=
  OpenClaim.holds_of_wide 4 Try.f4 rfl rfl rfl rfl rfl rfl rfl ⟨rfl, rfl, rfl, rfl, rfl⟩ rfl rfl rfl rfl rfl (by kernel_rfl) Try.func4 closed
    (of_decide_eq_true (by kernel_rfl)) (by unfold Func.isWrapper; first | (rw [if_pos (by decide +kernel)]; kernel_rfl) | (rw [if_neg (by decide +kernel)]; exact ⟨rfl, rfl⟩))
    (fun os started H enc _ => lifted os started H enc)
/-- THE STATEMENT. -/
theorem proved : Rows.SetGetsSaid := over
#print axioms proved
end Go.Proofs.Ytfafnjkinolkmaa.lawSetGets
