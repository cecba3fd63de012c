/- THE STATEMENT 'HeapGood': for every input the call returns true, and each argument reads behind it as it did: proved out of the walks. No condition beside the row's own. -/
import Derived.Test.YtfafnjkinolkmaaHeapK
import Derived.Test.YtfafnjkinolkmaaArgs
import Derived.Test.YtfafnjkinolkmaaFacts
set_option maxRecDepth 100000
namespace Go.Proofs.Ytfafnjkinolkmaa.lawHeapGood
open Go.ChangeShapes Go.WideShapes Go.ChangeAt Go.RowKit
set_option linter.unusedVariables false

theorem below_refl_alloc {w : World} {cs : Array Value} {t : TypeId} : Below w.heap.size w (w.alloc (.cells cs t)) := (Below.refl _ _).alloc (Nat.le_refl _) _
theorem refs_ok (n : Nat) : (refsTo n).all (valB n) = true := by
  rw [List.all_eq_true]
  intro v hv
  simp [refsTo] at hv
  obtain ⟨i, hi, rfl⟩ := hv
  simp [valB, hi]
theorem good_refs {m : Int} {os : List Ob} (h : GoodH m os) : checkN ⟨m, os⟩ (refsTo os.length) = 0 := by
  have := h.may
  simp only [hpB, Bool.and_eq_true] at this
  simp [checkN, hpB, this.1.1, this.1.2, refs_ok]
theorem good_none {m : Int} {os : List Ob} (h : GoodH m os) : checkN ⟨m, os⟩ [] = 0 := by simp [checkN, h.may]

set_option maxHeartbeats 4000000 in
theorem walk (w : World) (x : List Rw) (A : Option Addr) (c : Nat) (hp : RdSl rwE w (fun _ => True) (.slice A x.length c) x) (a : Int) (ha : -9223372036854775808 ≤ a ∧ a ≤ 9223372036854775807) :
    Calls Try.prog 3 #[.slice A x.length c, .int .i64 a] w fun e w' => e = .returned (.bool true) ∧ Below w.heap.size w w' := by
  have Hp := Lib.hid hp
  obtain ⟨m, hm⟩ : ∃ m, m = pickN a 61 := ⟨_, rfl⟩
  have hm' := pickN_lt a 61 (by omega)
  have G0 := Lib.hid (fun W => picked_any a 61 ha.1 ha.2 (by omega) (by omega) W)
  rw [← hm] at G0 hm'
  obtain ⟨m1, m2⟩ := hm'
  have G1 := Lib.hid (heapK_any m ⟨m1, by omega⟩ _ A c x w hp)
  clear hp ha hm
  unfold HeapKD at G1
  go_enter Try.func3, Try.ntmps3
  go_wp2_with fail
  refine (G0.out _).mono ?_
  rintro e w' ⟨rfl, rfl⟩
  go_wp2_with fail
  refine G1.out.mono ?_
  rintro e w1 ⟨os, A1, c1, B1, d1, rfl, hgood, hos, hall, hb1⟩
  obtain ⟨l1, l2⟩ := hgood.lim
  have z1 := hb1.size
  have HL := Lib.hid ((Locs.nil (w := w1)).new (cs := #[.int .i64 m, .slice A1 os.length c1]) (t := 26) rfl)
  have hbb : Below w.heap.size w (w1.alloc (.cells #[.int .i64 m, .slice A1 os.length c1] 26)) := hb1.alloc z1 _
  have Hos := Lib.hid (hos.below (by decide) (below_refl_alloc (cs := #[.int .i64 m, .slice A1 os.length c1]) (t := 26)))
  have Hall := Lib.hid (hall.below (by decide) (below_refl_alloc (cs := #[.int .i64 m, .slice A1 os.length c1]) (t := 26)))
  have C1 := Lib.hid (good_refs hgood)
  have C2 := Lib.hid (good_none hgood)
  have z2 : w1.heap.size + 1 = (w1.alloc (.cells #[.int .i64 m, .slice A1 os.length c1] 26)).heap.size := by simp
  clear hos hall hgood G1 G0
  go_upto_region 3 with fail
  generalize w1.alloc (.cells #[.int .i64 m, .slice A1 os.length c1] 26) = W at *
  clear hb1
  generalize w1.heap.size = n at *
  clear w1
  go_wp2_with fail
  go_loopw [20] (fun i wr => ∃ k : Nat, k ≤ os.length ∧ i = .int .i64 k ∧ Below W.heap.size W wr) (fun i _ => os.length - (intOf i).toNat)
  case atStart => exact ⟨0, by omega, rfl, Below.refl _ _⟩
  case round =>
    obtain ⟨k, hk, rfl, hb⟩ := hrel
    by_cases hlt : k < os.length
    · obtain ⟨b, o, rfl, _, _, g0, g1⟩ := (Hall.out.below (by decide) hb).at_v (refsTo_at hlt)
      dsimp only at g0 g1
      have i1 : (0 : Int) ≤ (k : Int) := by omega
      have i2 : (k : Int) < (os.length : Int) := by omega
      have hb' := hb.alloc hb.size (.cells #[.int .i64 2, .int .i64 (k : Int)] 31)
      go_wp2_with fail
      go_roundw
      case rel => exact ⟨k + 1, by omega, by go_num, hb'⟩
      case measure => simp [intOf]; omega
    · have i2 : ¬ (k : Int) < (os.length : Int) := by omega
      obtain ⟨p0, -⟩ := (HL.out.after hb).rules
      dsimp only at p0
      have hB := below_after hbb hb
      have hl := refsTo_len os.length
      have Hall' := Hall.out.below (by decide) hb
      have e2 : ((os.length : Int) == (os.length : Int)) = true := by simp
      go_wp2_with fail
      have G3 := check_is m _ (fun b => w.heap.size ≤ b) A1 B1 c1 d1 os (refsTo os.length) wr 0 C1 (Hos.out.below (by decide) hb) (by rw [hl]; exact Hall')
      rw [hl] at G3
      refine G3.mono ?_
      rintro e w2 ⟨rfl, hb2⟩
      have hbb2 := hb.trans (hb2.mono hb.size)
      obtain ⟨p0, -⟩ := (HL.out.after hbb2).rules
      dsimp only at p0
      go_wp2_with fail
      refine (cloneH_any m _ A1 c1 os _ (Hos.out.below (by decide) hbb2)).mono ?_
      rintro e w3 ⟨v3, vs3, rfl, hsep, hs, hb3⟩
      obtain ⟨A3, c3, rfl⟩ := own_form hsep.row
      go_wp2_with fail
      refine (check_is m _ (fun _ => True) A3 none c3 0 os [] _ 0 C2 (hsep.rd hs) RdSl.nil).mono ?_
      rintro e w4 ⟨rfl, hb4⟩
      have hB4 := below_after (below_after (below_after hB hb2) hb3) hb4
      go_wp2
      go_ret
      exact ⟨rfl, hB4⟩

theorem lifted (os : Os) (started : os.Started) (H : Type) (enc : TypeId × Value → H) :
    ReturnsInHanded {} Try.checked os 3 .any (Rows.heapGoodSpec.pre6 enc Try.prog Try.f3 Rows.heapGoodRow.domain false) (Rows.heapGoodSpec.post enc Try.prog Try.f3 false true false false) := by
  refine returnsInHanded_of_change_sized (C := Try.checked) own started (by kernel_rfl) Try.func3
    (ChangeSpec.witness6 (enc := enc) (C := Try.checked) false ⟨#[], #[.slice none 0 0, .int .i64 0], []⟩ 8 (by kernel_rfl) (by kernel_rfl) (by kernel_rfl) (by kernel_rfl)) ?_
  intro W base args ds gs before hval0 hW _ hsz0 _
  have hval : ∀ (j : Nat) t v, Try.f3.params[j]? = some t → args[j]? = some v → Value.okWide Try.prog W .any base t v := hval0
  have hsz : (DataW.weightsEach Try.prog (Try.f3.params.toList ++ Rows.heapGoodSpec.plain.varTypes Try.prog) (ds ++ gs)).all (· ≤ reachBytes) = true := hsz0
  have hW' := hW
  obtain ⟨p, q, hA0, hV, rfl, hfz, hnd⟩ := hW
  have hA : DataW.TrodAll enc Try.prog W 0 (fun _ => true) true Try.f3.params.toList args.toList ds p := hA0
  rw [Try.params3] at hA hval hsz
  obtain ⟨v0, vs0, d0, ds0, p0, q0, hargs, rfl, rfl, h0, r0⟩ := trodAll_cons hA
  obtain ⟨v1, vs1, d1, ds1, p1, q1, rfl, rfl, rfl, h1, r1⟩ := trodAll_cons r0
  obtain ⟨rfl, rfl, rfl⟩ := trodAll_nil r1
  obtain rfl : args = #[v0, v1] := by cases args; simp_all
  obtain ⟨rfl, rfl⟩ := trodVars_none hV
  obtain ⟨x0, A0, c0, rfl, y0⟩ := arg_rs h0 (hval 0 22 v0 rfl rfl) (sized_at hsz (j := 0) rfl rfl)
  obtain ⟨a1, rfl, -, -, w1⟩ := open_int Try.underlying3 (hval 1 3 v1 rfl rfl) h1
  clear hA0 hval0 hsz0
  refine (walk W x0 A0 c0 y0 a1 (wf_i64_range w1)).mono fun e W' ⟨he, hb⟩ => ?_
  subst he
  exact ⟨_, rfl, law_post (tb := 4) laidOut Try.underlying4 (by kernel_rfl) (by rw [Try.params3]; exact all_types (by kernel_rfl)) rfl hW' rfl hb⟩

theorem closed : joinedFacts Try.prog 3 Try.f3 Rows.heapGoodSpec Rows.heapGoodRow = true :=
  facts_of (by kernel_rfl) laidOut fact_rowed (by kernel_rfl) (by kernel_rfl) (by kernel_rfl) fact_stops (by kernel_rfl) fact_knobs (by kernel_rfl) (by kernel_rfl) (by kernel_rfl) (by kernel_rfl) (by kernel_rfl) (by kernel_rfl) (by kernel_rfl) (by kernel_rfl) (by kernel_rfl) (by kernel_rfl) (by kernel_rfl) (by kernel_rfl) (by kernel_rfl) (by kernel_rfl) (by kernel_rfl) fact_heard fact_may (by rw [fact_lifts]; rfl) fact_make ⟨rfl, rfl⟩ (by kernel_rfl) (by kernel_rfl) (by kernel_rfl)
theorem over : Rows.heapGoodRow.holds Try.pinned (OpenSpec.ofChange Rows.heapGoodSpec) :=
  OpenClaim.holds_of_wide 3 Try.f3 rfl rfl rfl rfl rfl rfl rfl ⟨rfl, rfl, rfl, rfl, rfl⟩ rfl rfl rfl rfl rfl (by kernel_rfl) Try.func3 closed
    (of_decide_eq_true (by kernel_rfl)) (by unfold Func.isWrapper; first | (rw [if_pos (by decide +kernel)]; kernel_rfl) | (rw [if_neg (by decide +kernel)]; exact ⟨rfl, rfl⟩))
    (fun os started H enc _ => lifted os started H enc)
/-- THE STATEMENT. -/
theorem proved : Rows.HeapGoodSaid := over
#print axioms proved
end Go.Proofs.Ytfafnjkinolkmaa.lawHeapGood
