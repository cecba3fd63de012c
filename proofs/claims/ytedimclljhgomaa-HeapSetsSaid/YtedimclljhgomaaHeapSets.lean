/- THE STATEMENT 'HeapSets': for every input the call returns true, and each argument reads behind it as it did: proved out of the walks. No condition beside the row's own. -/
import Derived.Test.YtedimclljhgomaaSet
import Derived.Test.YtedimclljhgomaaSetOf
import Derived.Test.YtedimclljhgomaaHeapCopy
import Derived.Test.YtedimclljhgomaaSame
import Derived.Test.YtedimclljhgomaaArgs
import Derived.Test.YtedimclljhgomaaFacts
set_option maxRecDepth 100000
namespace Go.Proofs.Ytedimclljhgomaa.lawHeapSets
open Go.ChangeShapes Go.WideShapes Go.ChangeAt Go.RowKit
set_option linter.unusedVariables false

set_option maxHeartbeats 2000000 in
theorem walk (w : World) (m : Int) (os : List Ob) (A : Option Addr) (c : Nat) (hp : RdSl obE w (fun _ => True) (.slice A os.length c) os) (v : V) (f : Int) (_hf : -9223372036854775808 ≤ f ∧ f ≤ 9223372036854775807) (x : V) :
    Calls Try.prog 7 #[.agg #[.int .i64 m, .slice A os.length c], .agg #[.int .i64 v.k, .int .i64 v.n], .int .i64 f, .agg #[.int .i64 x.k, .int .i64 x.n]] w fun e w' => e = .returned (.bool true) ∧ Below w.heap.size w w' := by
  have Hp := Lib.hid hp
  clear hp _hf
  have hB : Below w.heap.size w (((w.alloc (.cells #[.int .i64 m, .slice A os.length c] 35)).alloc (.cells #[.int .i64 v.k, .int .i64 v.n] 43)).alloc (.cells #[.int .i64 x.k, .int .i64 x.n] 43)) :=
    (((Below.refl _ _).alloc (Nat.le_refl _) _).alloc (by simp) _).alloc (by simp; omega) _
  have L0 : Locs (((w.alloc (.cells #[.int .i64 m, .slice A os.length c] 35)).alloc (.cells #[.int .i64 v.k, .int .i64 v.n] 43)).alloc (.cells #[.int .i64 x.k, .int .i64 x.n] 43))
      [(w.heap.size + 1 + 1, #[.int .i64 x.k, .int .i64 x.n], 43), (w.heap.size + 1, #[.int .i64 v.k, .int .i64 v.n], 43), (w.heap.size, #[.int .i64 m, .slice A os.length c], 35)] :=
    ((Locs.nil.new rfl).new (by simp)).new (by simp)
  have G1 := Lib.hid (fun W S A c (h : RdSl obE W S (.slice A os.length c) os) => set_any m S A c os v f x W h)
  have G2 := Lib.hid (fun W S A c (h : RdSl obE W S (.slice A os.length c) os) => setOf_any m S A c os v f x W h)
  unfold SetD at G1 G2
  generalize setH ⟨m, os⟩ v f x = r at *
  generalize setE ⟨m, os⟩ v f x = er at *
  have b3 : (er == er) = true := by simp
  have HL0 := Lib.hid L0
  clear L0
  go_enter Try.func7, Try.ntmps7
  go_wp2_with fail
  refine (heapCopy_any m _ A c os _ (Hp.out.below (by decide) hB)).mono ?_
  rintro e w1 ⟨v1, vs1, rfl, hsep, hs, hb1⟩
  obtain ⟨A1, c1, rfl⟩ := own_form hsep.row
  have Hr1 := Lib.hid (hsep.rd hs)
  have hbb1 := below_after hB hb1
  have HL1 := Lib.hid ((HL0.out.after hb1).new (cs := #[.int .i64 m, .slice A1 os.length c1]) (t := 35) rfl)
  obtain ⟨p0, -, p1, -, p2, -, p3, -⟩ := HL1.out.rules
  have hz1 := hbb1.size
  clear hsep hs
  go_wp2_with fail
  refine (G1.out _ _ _ _ (Hr1.out.below (by decide) ((Below.refl _ _).alloc (Nat.le_refl _) _))).mono ?_
  rintro e w2 ⟨v2, rfl, ⟨A2, c2, rfl, hr2⟩, hb2⟩
  have hbb2 := below_after (hbb1.alloc hz1 _) hb2
  have HL2 := Lib.hid ((HL1.out.after hb2).new (cs := #[.int .i64 r.most, .slice A2 r.objs.length c2]) (t := 35) rfl)
  have Hr2 := Lib.hid hr2
  have hz2 := hbb2.size
  have hz1' : w1.heap.size < w2.heap.size := by have := hb2.size; simp at this; omega
  clear hr2 p0 p1 p2 p3
  obtain ⟨p0, -, p1, -, p2, -, p3, -, p4, -⟩ := HL2.out.rules
  go_wp2_with fail
  have hbb2' := hbb2.alloc hz2 (.cells #[.int .i64 r.most, .slice A2 r.objs.length c2] 35)
  refine (G2.out _ _ _ _ (Hp.out.below (by decide) hbb2')).mono ?_
  rintro e w3 ⟨v3, rfl, ⟨A3, c3, rfl, hr3⟩, hb3⟩
  have hbb3 := below_after hbb2' hb3
  have hz3 : w2.heap.size + 1 ≤ w3.heap.size := by have := hb3.size; simpa using this
  have HL3 := Lib.hid ((HL2.out.after hb3).new (cs := #[.int .i64 r.most, .slice A3 r.objs.length c3]) (t := 35) rfl)
  have Hr3 := Lib.hid hr3
  clear hr3 p0 p1 p2 p3 p4
  obtain ⟨p0, -, p1, -, p2, -, p3, -, p4, -, p5, -⟩ := HL3.out.rules
  have hbe : Below w3.heap.size w3 (w3.alloc (.cells #[.int .i64 r.most, .slice A3 r.objs.length c3] 35)) := (Below.refl _ _).alloc (Nat.le_refl _) _
  have hbe2 : Below w2.heap.size w2 (w2.alloc (.cells #[.int .i64 r.most, .slice A2 r.objs.length c2] 35)) := (Below.refl _ _).alloc (Nat.le_refl _) _
  have Ra := Lib.hid ((((Hr2.out.below (by decide) hbe2).below (by decide) hb3).below (by decide) hbe))
  have Rb := Lib.hid (Hr3.out.below (by decide) hbe)
  have Rk := Lib.hid ((((Hr1.out.below (by decide) ((Below.refl _ _).alloc (Nat.le_refl _) _)).below (by decide) hb2).below (by decide) hbe2).below (by decide) hb3 |>.below (by decide) hbe)
  have hbb4 := hbb3.alloc (by omega) (.cells #[.int .i64 r.most, .slice A3 r.objs.length c3] 35)
  have Rh := Lib.hid (Hp.out.below (by decide) hbb4)
  go_wp2_with fail
  refine (sameHeap_eq r.most _ _ A2 A3 c2 c3 r.objs _ Ra.out Rb.out).mono ?_
  rintro e w4 ⟨rfl, hb4⟩
  have HL4 := Lib.hid (HL3.out.after hb4)
  clear p0 p1 p2 p3 p4 p5
  obtain ⟨p0, -, p1, -, p2, -, p3, -, p4, -, p5, -⟩ := HL4.out.rules
  go_wp2_with fail
  refine (sameHeap_eq m _ _ A1 A c1 c os _ (Rk.out.below (by decide) hb4) (Rh.out.below (by decide) hb4)).mono ?_
  rintro e w5 ⟨rfl, hb5⟩
  go_wp2
  go_ret
  exact ⟨rfl, below_after (below_after hbb4 hb4) hb5⟩

theorem lifted (os : Os) (started : os.Started) (H : Type) (enc : TypeId × Value → H) :
    ReturnsInHanded {} Try.checked os 7 .any (Rows.heapSetsSpec.pre6 enc Try.prog Try.f7 Rows.heapSetsRow.domain false) (Rows.heapSetsSpec.post enc Try.prog Try.f7 false true false false) := by
  refine returnsInHanded_of_change_sized (C := Try.checked) own started (by kernel_rfl) Try.func7
    (ChangeSpec.witness6 (enc := enc) (C := Try.checked) false ⟨#[], #[.agg #[.int .i64 0, .slice none 0 0], .agg #[.int .i64 0, .int .i64 0], .int .i64 0, .agg #[.int .i64 0, .int .i64 0]], []⟩ 8 (by kernel_rfl) (by kernel_rfl) (by kernel_rfl) (by kernel_rfl)) ?_
  intro W base args ds gs before hval0 hW _ hsz0 _
  have hval : ∀ (j : Nat) t v, Try.f7.params[j]? = some t → args[j]? = some v → Value.okWide Try.prog W .any base t v := hval0
  have hsz : (DataW.weightsEach Try.prog (Try.f7.params.toList ++ Rows.heapSetsSpec.plain.varTypes Try.prog) (ds ++ gs)).all (· ≤ reachBytes) = true := hsz0
  have hW' := hW
  obtain ⟨p, q, hA0, hV, rfl, hfz, hnd⟩ := hW
  have hA : DataW.TrodAll enc Try.prog W 0 (fun _ => true) true Try.f7.params.toList args.toList ds p := hA0
  rw [Try.params7] at hA hval hsz
  obtain ⟨v0, vs0, d0, ds0, p0, q0, hargs, rfl, rfl, h0, r0⟩ := trodAll_cons hA
  obtain ⟨v1, vs1, d1, ds1, p1, q1, rfl, rfl, rfl, h1, r1⟩ := trodAll_cons r0
  obtain ⟨v2, vs2, d2, ds2, p2, q2, rfl, rfl, rfl, h2, r2⟩ := trodAll_cons r1
  obtain ⟨v3, vs3, d3, ds3, p3, q3, rfl, rfl, rfl, h3, r3⟩ := trodAll_cons r2
  obtain ⟨rfl, rfl, rfl⟩ := trodAll_nil r3
  obtain rfl : args = #[v0, v1, v2, v3] := by cases args; simp_all
  obtain ⟨rfl, rfl⟩ := trodVars_none hV
  obtain ⟨m0, x0, A0, c0, rfl, y0⟩ := arg_hp h0 (hval 0 35 v0 rfl rfl) (sized_at hsz (j := 0) rfl rfl)
  obtain ⟨x1, rfl⟩ := arg_v h1 (hval 1 43 v1 rfl rfl) (sized_at hsz (j := 1) rfl rfl)
  obtain ⟨a2, rfl, -, -, w2⟩ := open_int Try.underlying3 (hval 2 3 v2 rfl rfl) h2
  obtain ⟨x3, rfl⟩ := arg_v h3 (hval 3 43 v3 rfl rfl) (sized_at hsz (j := 3) rfl rfl)
  clear hA0 hval0 hsz0
  refine (walk W m0 x0 A0 c0 y0 x1 a2 (wf_i64_range w2) x3).mono fun e W' ⟨he, hb⟩ => ?_
  subst he
  exact ⟨_, rfl, law_post (tb := 4) laidOut Try.underlying4 (by kernel_rfl) (by rw [Try.params7]; exact all_types (by kernel_rfl)) rfl hW' rfl hb⟩

theorem closed : joinedFacts Try.prog 7 Try.f7 Rows.heapSetsSpec Rows.heapSetsRow = true :=
  facts_of (by kernel_rfl) laidOut fact_rowed (by kernel_rfl) (by kernel_rfl) (by kernel_rfl) fact_stops (by kernel_rfl) fact_knobs (by kernel_rfl) (by kernel_rfl) (by kernel_rfl) (by kernel_rfl) (by kernel_rfl) (by kernel_rfl) (by kernel_rfl) (by kernel_rfl) (by kernel_rfl) (by kernel_rfl) (by kernel_rfl) (by kernel_rfl) (by kernel_rfl) (by kernel_rfl) (by kernel_rfl) fact_heard fact_may (by rw [fact_lifts]; rfl) fact_make ⟨rfl, rfl⟩ (by kernel_rfl) (by kernel_rfl) (by kernel_rfl)
theorem over : Rows.heapSetsRow.holds Try.pinned (OpenSpec.ofChange Rows.heapSetsSpec) :=
  OpenClaim.holds_of_wide 7 Try.f7 rfl rfl rfl rfl rfl rfl rfl ⟨rfl, rfl, rfl, rfl, rfl⟩ rfl rfl rfl rfl rfl (by kernel_rfl) Try.func7 closed
    (of_decide_eq_true (by kernel_rfl)) (by unfold Func.isWrapper; first | (rw [if_pos (by decide +kernel)]; kernel_rfl) | (rw [if_neg (by decide +kernel)]; exact ⟨rfl, rfl⟩))
    (fun os started H enc _ => lifted os started H enc)
/-- THE STATEMENT. -/
theorem proved : Rows.HeapSetsSaid := over
#print axioms proved
end Go.Proofs.Ytedimclljhgomaa.lawHeapSets
