/- THE STATEMENT 'HeapAllocs': for every input the call returns true, and each argument reads behind it as it did: proved out of the walks. No condition beside the row's own. -/
import Derived.Test.YtedimclljhgomaaAllocOf
import Derived.Test.YtedimclljhgomaaSame
import Derived.Test.YtedimclljhgomaaArgs
import Derived.Test.YtedimclljhgomaaFacts
set_option maxRecDepth 100000
namespace Go.Proofs.Ytedimclljhgomaa.lawHeapAllocs
open Go.ChangeShapes Go.WideShapes Go.ChangeAt Go.RowKit
set_option linter.unusedVariables false

set_option maxHeartbeats 2000000 in
theorem walk (w : World) (m : Int) (os : List Ob) (A : Option Addr) (c : Nat) (hp : RdSl obE w (fun _ => True) (.slice A os.length c) os) (f : Int) (_hf : -9223372036854775808 ≤ f ∧ f ≤ 9223372036854775807) :
    Calls Try.prog 6 #[.agg #[.int .i64 m, .slice A os.length c], .int .i64 f] w fun e w' => e = .returned (.bool true) ∧ Below w.heap.size w w' := by
  have Hp := Lib.hid hp
  clear hp _hf
  have hB : Below w.heap.size w (w.alloc (.cells #[.int .i64 m, .slice A os.length c] 35)) := (Below.refl _ _).alloc (Nat.le_refl _) _
  have L0 : Locs (w.alloc (.cells #[.int .i64 m, .slice A os.length c] 35)) [(w.heap.size, #[.int .i64 m, .slice A os.length c], 35)] := Locs.nil.new rfl
  have G1 := Lib.hid (fun W S A c (h : RdSl obE W S (.slice A os.length c) os) => alloc_any m S A c os f W h)
  have G2 := Lib.hid (fun W S A c (h : RdSl obE W S (.slice A os.length c) os) => allocOf_any m S A c os f W h)
  unfold Alloced at G1 G2
  generalize allocH ⟨m, os⟩ f = r at *
  generalize allocV ⟨m, os⟩ f = x at *
  generalize allocE ⟨m, os⟩ f = er at *
  have b1 : (x.k == x.k) = true := by simp
  have b2 : (x.n == x.n) = true := by simp
  have b3 : (er == er) = true := by simp
  have HL0 := Lib.hid L0
  clear L0
  go_enter Try.func6, Try.ntmps6
  go_wp2_with fail
  refine (heapCopy_any m _ A c os _ (Hp.out.below (by decide) hB)).mono ?_
  rintro e w1 ⟨v1, vs1, rfl, hsep, hs, hb1⟩
  obtain ⟨A1, c1, rfl⟩ := own_form hsep.row
  have Hr1 := Lib.hid (hsep.rd hs)
  have hbb1 := below_after hB hb1
  have HL1 := Lib.hid ((HL0.out.after hb1).new (cs := #[.int .i64 m, .slice A1 os.length c1]) (t := 35) rfl)
  obtain ⟨p0, -, p1, -⟩ := HL1.out.rules
  have hz1 := hbb1.size
  clear hsep hs
  go_wp2_with fail
  refine (G1.out _ _ _ _ (Hr1.out.below (by decide) ((Below.refl _ _).alloc (Nat.le_refl _) _))).mono ?_
  rintro e w2 ⟨v2, rfl, ⟨A2, c2, rfl, hr2⟩, hb2⟩
  have hbb2 := below_after (hbb1.alloc hz1 _) hb2
  have HL2 := Lib.hid (((HL1.out.after hb2).new (cs := #[.int .i64 r.most, .slice A2 r.objs.length c2]) (t := 35) rfl).new (cs := #[.int .i64 x.k, .int .i64 x.n]) (t := 43) (n := w2.heap.size + 1) (by simp))
  have Hr2 := Lib.hid hr2
  have hz2 := hbb2.size
  have hz1' : w1.heap.size < w2.heap.size := by have := hb2.size; simp at this; omega
  clear hr2 p0 p1
  obtain ⟨p0, -, p1, -, p2, -, p3, -⟩ := HL2.out.rules
  go_wp2_with fail
  have hbb2' := ((hbb2.alloc hz2 (.cells #[.int .i64 r.most, .slice A2 r.objs.length c2] 35)).alloc (by simp; omega) (.cells #[.int .i64 x.k, .int .i64 x.n] 43))
  refine (G2.out _ _ _ _ (Hp.out.below (by decide) hbb2')).mono ?_
  rintro e w3 ⟨v3, rfl, ⟨A3, c3, rfl, hr3⟩, hb3⟩
  have hbb3 := below_after hbb2' hb3
  have hz3 : w2.heap.size + 1 + 1 ≤ w3.heap.size := by have := hb3.size; simpa using this
  have HL3 := Lib.hid (((HL2.out.after hb3).new (cs := #[.int .i64 r.most, .slice A3 r.objs.length c3]) (t := 35) rfl).new (cs := #[.int .i64 x.k, .int .i64 x.n]) (t := 43) (n := w3.heap.size + 1) (by simp))
  have Hr3 := Lib.hid hr3
  clear hr3 p0 p1 p2 p3
  obtain ⟨p0, -, p1, -, p2, -, p3, -, p4, -, p5, -⟩ := HL3.out.rules
  have hbe : Below w3.heap.size w3 ((w3.alloc (.cells #[.int .i64 r.most, .slice A3 r.objs.length c3] 35)).alloc (.cells #[.int .i64 x.k, .int .i64 x.n] 43)) := ((Below.refl _ _).alloc (Nat.le_refl _) _).alloc (by simp) _
  have hbe2 : Below w2.heap.size w2 ((w2.alloc (.cells #[.int .i64 r.most, .slice A2 r.objs.length c2] 35)).alloc (.cells #[.int .i64 x.k, .int .i64 x.n] 43)) := ((Below.refl _ _).alloc (Nat.le_refl _) _).alloc (by simp) _
  have Ra := Lib.hid ((((Hr2.out.below (by decide) hbe2).below (by decide) hb3).below (by decide) hbe))
  have Rb := Lib.hid (Hr3.out.below (by decide) hbe)
  have Rk := Lib.hid ((((Hr1.out.below (by decide) ((Below.refl _ _).alloc (Nat.le_refl _) _)).below (by decide) hb2).below (by decide) hbe2).below (by decide) hb3 |>.below (by decide) hbe)
  have hbb4 := (hbb3.alloc (by omega) (.cells #[.int .i64 r.most, .slice A3 r.objs.length c3] 35)).alloc (by simp; omega) (.cells #[.int .i64 x.k, .int .i64 x.n] 43)
  have Rh := Lib.hid (Hp.out.below (by decide) hbb4)
  go_wp2_with fail
  refine (sameHeap_eq r.most _ _ A2 A3 c2 c3 r.objs _ Ra.out Rb.out).mono ?_
  rintro e w4 ⟨rfl, hb4⟩
  have HL4 := Lib.hid (HL3.out.after hb4)
  clear p0 p1 p2 p3 p4 p5
  obtain ⟨p0, -, p1, -, p2, -, p3, -, p4, -, p5, -⟩ := HL4.out.rules
  go_wp2_with fail
  refine (sameHeap_eq m _ _ A1 A c1 c os _ (Rk.out.below (by decide) hb4) (Rh.out.below (by decide) hb4)).mono ?_
  rintro e w5 ⟨rfl, hb5⟩
  go_wp2
  go_ret
  exact ⟨rfl, below_after (below_after hbb4 hb4) hb5⟩

theorem lifted (os : Os) (started : os.Started) (H : Type) (enc : TypeId × Value → H) :
    ReturnsInHanded {} Try.checked os 6 .any (Rows.heapAllocsSpec.pre6 enc Try.prog Try.f6 Rows.heapAllocsRow.domain false) (Rows.heapAllocsSpec.post enc Try.prog Try.f6 false true false false) := by
  refine returnsInHanded_of_change_sized (C := Try.checked) own started (by kernel_rfl) Try.func6
    (ChangeSpec.witness6 (enc := enc) (C := Try.checked) false ⟨#[], #[.agg #[.int .i64 0, .slice none 0 0], .int .i64 0], []⟩ 8 (by kernel_rfl) (by kernel_rfl) (by kernel_rfl) (by kernel_rfl)) ?_
  intro W base args ds gs before hval0 hW _ hsz0 _
  have hval : ∀ (j : Nat) t v, Try.f6.params[j]? = some t → args[j]? = some v → Value.okWide Try.prog W .any base t v := hval0
  have hsz : (DataW.weightsEach Try.prog (Try.f6.params.toList ++ Rows.heapAllocsSpec.plain.varTypes Try.prog) (ds ++ gs)).all (· ≤ reachBytes) = true := hsz0
  have hW' := hW
  obtain ⟨p, q, hA0, hV, rfl, hfz, hnd⟩ := hW
  have hA : DataW.TrodAll enc Try.prog W 0 (fun _ => true) true Try.f6.params.toList args.toList ds p := hA0
  rw [Try.params6] at hA hval hsz
  obtain ⟨v0, vs0, d0, ds0, p0, q0, hargs, rfl, rfl, h0, r0⟩ := trodAll_cons hA
  obtain ⟨v1, vs1, d1, ds1, p1, q1, rfl, rfl, rfl, h1, r1⟩ := trodAll_cons r0
  obtain ⟨rfl, rfl, rfl⟩ := trodAll_nil r1
  obtain rfl : args = #[v0, v1] := by cases args; simp_all
  obtain ⟨rfl, rfl⟩ := trodVars_none hV
  obtain ⟨m0, x0, A0, c0, rfl, y0⟩ := arg_hp h0 (hval 0 35 v0 rfl rfl) (sized_at hsz (j := 0) rfl rfl)
  obtain ⟨a1, rfl, -, -, w1⟩ := open_int Try.underlying3 (hval 1 3 v1 rfl rfl) h1
  clear hA0 hval0 hsz0
  refine (walk W m0 x0 A0 c0 y0 a1 (wf_i64_range w1)).mono fun e W' ⟨he, hb⟩ => ?_
  subst he
  exact ⟨_, rfl, law_post (tb := 4) laidOut Try.underlying4 (by kernel_rfl) (by rw [Try.params6]; exact all_types (by kernel_rfl)) rfl hW' rfl hb⟩

theorem closed : joinedFacts Try.prog 6 Try.f6 Rows.heapAllocsSpec Rows.heapAllocsRow = true :=
  facts_of (by kernel_rfl) laidOut fact_rowed (by kernel_rfl) (by kernel_rfl) (by kernel_rfl) fact_stops (by kernel_rfl) fact_knobs (by kernel_rfl) (by kernel_rfl) (by kernel_rfl) (by kernel_rfl) (by kernel_rfl) (by kernel_rfl) (by kernel_rfl) (by kernel_rfl) (by kernel_rfl) (by kernel_rfl) (by kernel_rfl) (by kernel_rfl) (by kernel_rfl) (by kernel_rfl) (by kernel_rfl) fact_heard fact_may (by rw [fact_lifts]; rfl) fact_make ⟨rfl, rfl⟩ (by kernel_rfl) (by kernel_rfl) (by kernel_rfl)
theorem over : Rows.heapAllocsRow.holds Try.pinned (OpenSpec.ofChange Rows.heapAllocsSpec) :=
  OpenClaim.holds_of_wide 6 Try.f6 rfl rfl rfl rfl rfl rfl rfl ⟨rfl, rfl, rfl, rfl, rfl⟩ rfl rfl rfl rfl rfl (by kernel_rfl) Try.func6 closed
    (of_decide_eq_true (by kernel_rfl)) (by unfold Func.isWrapper; first | (rw [if_pos (by decide +kernel)]; kernel_rfl) | (rw [if_neg (by decide +kernel)]; exact ⟨rfl, rfl⟩))
    (fun os started H enc _ => lifted os started H enc)
/-- THE STATEMENT. -/
theorem proved : Rows.HeapAllocsSaid := over
#print axioms proved
end Go.Proofs.Ytedimclljhgomaa.lawHeapAllocs
