/- THE STATEMENT 'HeapReaches': for every input the call returns true, and each argument reads behind it as it did: proved out of the walks. No condition beside the row's own. -/
import Derived.Test.YtedimclljhgomaaReachD
import Derived.Test.YtedimclljhgomaaArgs
import Derived.Test.YtedimclljhgomaaFacts
set_option maxRecDepth 100000
namespace Go.Proofs.Ytedimclljhgomaa.lawHeapReaches
open Go.ChangeShapes Go.WideShapes Go.ChangeAt Go.RowKit
set_option linter.unusedVariables false

set_option maxHeartbeats 1000000 in
theorem walk (w : World) (m : Int) (os : List Ob) (A : Option Addr) (c : Nat) (hp : RdSl obE w (fun _ => True) (.slice A os.length c) os) (rs : List V) (R : Option Addr) (d : Nat) (hq : RdSl vE w (fun _ => True) (.slice R rs.length d) rs) :
    Calls Try.prog 5 #[.agg #[.int .i64 m, .slice A os.length c], .slice R rs.length d] w fun e w' => e = .returned (.bool true) ∧ Below w.heap.size w w' := by
  have Hp := Lib.hid hp
  have Hq := Lib.hid hq
  clear hp hq
  have hB : Below w.heap.size w (w.alloc (.cells #[.int .i64 m, .slice A os.length c] 35)) := (Below.refl _ _).alloc (Nat.le_refl _) _
  have HL0 := Lib.hid (Locs.nil.new (w := w) (cs := #[.int .i64 m, .slice A os.length c]) (t := 35) rfl)
  have G1 := Lib.hid (fun W S T (h : RdSl obE W S (.slice A os.length c) os) (h' : RdSl vE W T (.slice R rs.length d) rs) => reachD_any m S T A R c d os rs W h h')
  have G2 := Lib.hid (fun W S T (h : RdSl obE W S (.slice A os.length c) os) (h' : RdSl vE W T (.slice R rs.length d) rs) => reachOf_any m S T A R c d os rs W h h')
  unfold ReachD at G1 G2
  generalize reachR ⟨m, os⟩ rs = l at *
  generalize checkN ⟨m, os⟩ rs = er at *
  have b3 : (er == er) = true := by simp
  go_enter Try.func5, Try.ntmps5
  go_wp2_with fail
  refine (G1.out _ _ _ (Hp.out.below (by decide) hB) (Hq.out.below (by decide) hB)).mono ?_
  rintro e w1 ⟨A1, c1, rfl, hr1, hb1⟩
  have hbb1 := below_after hB hb1
  obtain ⟨p0, -⟩ := (HL0.out.after hb1).rules
  have Hr1 := Lib.hid hr1
  clear hr1
  go_wp2_with fail
  refine (G2.out _ _ _ (Hp.out.below (by decide) hbb1) (Hq.out.below (by decide) hbb1)).mono ?_
  rintro e w2 ⟨A2, c2, rfl, hr2, hb2⟩
  have hbb2 := below_after hbb1 hb2
  have Hr2 := Lib.hid hr2
  clear hr2
  go_wp2_with fail
  refine (sameInts_eq _ _ A1 A2 c1 c2 l _ (Hr1.out.below (by decide) hb2) Hr2.out).mono ?_
  rintro e w3 ⟨rfl, n, rfl⟩
  go_wp2
  go_ret
  exact ⟨rfl, below_drewN hbb2 n⟩

theorem lifted (os : Os) (started : os.Started) (H : Type) (enc : TypeId × Value → H) :
    ReturnsInHanded {} Try.checked os 5 .any (Rows.heapReachesSpec.pre6 enc Try.prog Try.f5 Rows.heapReachesRow.domain false) (Rows.heapReachesSpec.post enc Try.prog Try.f5 false true false false) := by
  refine returnsInHanded_of_change_sized (C := Try.checked) own started (by kernel_rfl) Try.func5
    (ChangeSpec.witness6 (enc := enc) (C := Try.checked) false ⟨#[], #[.agg #[.int .i64 0, .slice none 0 0], .slice none 0 0], []⟩ 8 (by kernel_rfl) (by kernel_rfl) (by kernel_rfl) (by kernel_rfl)) ?_
  intro W base args ds gs before hval0 hW _ hsz0 _
  have hval : ∀ (j : Nat) t v, Try.f5.params[j]? = some t → args[j]? = some v → Value.okWide Try.prog W .any base t v := hval0
  have hsz : (DataW.weightsEach Try.prog (Try.f5.params.toList ++ Rows.heapReachesSpec.plain.varTypes Try.prog) (ds ++ gs)).all (· ≤ reachBytes) = true := hsz0
  have hW' := hW
  obtain ⟨p, q, hA0, hV, rfl, hfz, hnd⟩ := hW
  have hA : DataW.TrodAll enc Try.prog W 0 (fun _ => true) true Try.f5.params.toList args.toList ds p := hA0
  rw [Try.params5] at hA hval hsz
  obtain ⟨v0, vs0, d0, ds0, p0, q0, hargs, rfl, rfl, h0, r0⟩ := trodAll_cons hA
  obtain ⟨v1, vs1, d1, ds1, p1, q1, rfl, rfl, rfl, h1, r1⟩ := trodAll_cons r0
  obtain ⟨rfl, rfl, rfl⟩ := trodAll_nil r1
  obtain rfl : args = #[v0, v1] := by cases args; simp_all
  obtain ⟨rfl, rfl⟩ := trodVars_none hV
  obtain ⟨m0, x0, A0, c0, rfl, y0⟩ := arg_hp h0 (hval 0 35 v0 rfl rfl) (sized_at hsz (j := 0) rfl rfl)
  obtain ⟨x1, A1, c1, rfl, y1⟩ := arg_vs h1 (hval 1 36 v1 rfl rfl) (sized_at hsz (j := 1) rfl rfl)
  clear hA0 hval0 hsz0
  refine (walk W m0 x0 A0 c0 y0 x1 A1 c1 y1).mono fun e W' ⟨he, hb⟩ => ?_
  subst he
  exact ⟨_, rfl, law_post (tb := 4) laidOut Try.underlying4 (by kernel_rfl) (by rw [Try.params5]; exact all_types (by kernel_rfl)) rfl hW' rfl hb⟩

theorem closed : joinedFacts Try.prog 5 Try.f5 Rows.heapReachesSpec Rows.heapReachesRow = true :=
  facts_of (by kernel_rfl) laidOut fact_rowed (by kernel_rfl) (by kernel_rfl) (by kernel_rfl) fact_stops (by kernel_rfl) fact_knobs (by kernel_rfl) (by kernel_rfl) (by kernel_rfl) (by kernel_rfl) (by kernel_rfl) (by kernel_rfl) (by kernel_rfl) (by kernel_rfl) (by kernel_rfl) (by kernel_rfl) (by kernel_rfl) (by kernel_rfl) (by kernel_rfl) (by kernel_rfl) (by kernel_rfl) fact_heard fact_may (by rw [fact_lifts]; rfl) fact_make ⟨rfl, rfl⟩ (by kernel_rfl) (by kernel_rfl) (by kernel_rfl)
theorem over : Rows.heapReachesRow.holds Try.pinned (OpenSpec.ofChange Rows.heapReachesSpec) :=
  OpenClaim.holds_of_wide 5 Try.f5 rfl rfl rfl rfl rfl rfl rfl ⟨rfl, rfl, rfl, rfl, rfl⟩ rfl rfl rfl rfl rfl (by kernel_rfl) Try.func5 closed
    (of_decide_eq_true (by kernel_rfl)) (by unfold Func.isWrapper; first | (rw [if_pos (by decide +kernel)]; kernel_rfl) | (rw [if_neg (by decide +kernel)]; exact ⟨rfl, rfl⟩))
    (fun os started H enc _ => lifted os started H enc)
/-- THE STATEMENT. -/
theorem proved : Rows.HeapReachesSaid := over
#print axioms proved
end Go.Proofs.Ytedimclljhgomaa.lawHeapReaches
