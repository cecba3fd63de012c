/- THE STATEMENT 'ActorCopies': for every input the call returns true, and each argument reads behind it as it did: proved out of the walks. No condition beside the row's own. -/
import Derived.Test.YtedimclljhgomaaActCopy
import Derived.Test.YtedimclljhgomaaSameW
import Derived.Test.YtedimclljhgomaaArgs
import Derived.Test.YtedimclljhgomaaFacts
set_option maxRecDepth 100000
namespace Go.Proofs.Ytedimclljhgomaa.lawActorCopies
open Go.ChangeShapes Go.WideShapes Go.ChangeAt Go.RowKit
set_option linter.unusedVariables false

set_option maxHeartbeats 1000000 in
theorem walk (w : World) (x : Wd) (A : Option Addr) (c : Nat) (B : Option Addr) (d : Nat) (hp : RdSl acE w (fun _ => True) (.slice A x.actors.length c) x.actors) (hq : RdSl tdE w (fun _ => True) (.slice B x.prints.length d) x.prints) :
    Calls Try.prog 4 #[.agg #[.slice A x.actors.length c, .slice B x.prints.length d]] w fun e w' => e = .returned (.bool true) ∧ Below w.heap.size w w' := by
  obtain ⟨acs, ps⟩ := x
  dsimp only at hp hq ⊢
  have Hp := Lib.hid hp
  have Hq := Lib.hid hq
  clear hp hq
  have hB : Below w.heap.size w (w.alloc (.cells #[.slice A acs.length c, .slice B ps.length d] 29)) := (Below.refl _ _).alloc (Nat.le_refl _) _
  have HL0 := Lib.hid (Locs.nil.new (w := w) (cs := #[.slice A acs.length c, .slice B ps.length d]) (t := 29) rfl)
  have G1 := Lib.hid (fun W S T (h : RdSl acE W S (.slice A acs.length c) acs) (h' : RdSl tdE W T (.slice B ps.length d) ps) => actCopy_any S T A B c d acs ps W h h')
  unfold CopiedA at G1
  go_enter Try.func4, Try.ntmps4
  go_wp2_with fail
  refine (G1.out _ _ _ (Hp.out.below (by decide) hB) (Hq.out.below (by decide) hB)).mono ?_
  rintro e w1 ⟨A1, c1, B1, d1, rfl, hr1, hs1, hb1⟩
  have hbb1 := below_after hB hb1
  have HL1 := Lib.hid (HL0.out.after hb1)
  obtain ⟨p0, p1, -⟩ := (HL0.out.after hb1).rules
  dsimp only at p0 p1
  have Hr1 := Lib.hid hr1
  have Hs1 := Lib.hid hs1
  clear hr1 hs1
  have y0 : w.heap.size < w1.heap.size := by have := hb1.size; simp at this; omega
  have hB2 := hbb1.alloc (by have := hbb1.size; omega) (.cells #[.slice A1 acs.length c1, .slice B1 ps.length d1] 29)
  have hB1 : Below w1.heap.size w1 (w1.alloc (.cells #[.slice A1 acs.length c1, .slice B1 ps.length d1] 29)) := (Below.refl _ _).alloc (Nat.le_refl _) _
  go_wp2_with fail
  refine (sameWorld_eq _ _ _ _ A1 A B1 B c1 c d1 d acs ps _ (Hr1.out.below (by decide) hB1) (Hp.out.below (by decide) hB2) (Hs1.out.below (by decide) hB1) (Hq.out.below (by decide) hB2)).mono ?_
  rintro e w3 ⟨rfl, hb3⟩
  have hbb3 := below_after hB2 hb3
  go_wp2
  go_ret
  exact ⟨rfl, hbb3⟩

theorem lifted (os : Os) (started : os.Started) (H : Type) (enc : TypeId × Value → H) :
    ReturnsInHanded {} Try.checked os 4 .any (Rows.actorCopiesSpec.pre6 enc Try.prog Try.f4 Rows.actorCopiesRow.domain false) (Rows.actorCopiesSpec.post enc Try.prog Try.f4 false true false false) := by
  refine returnsInHanded_of_change_sized (C := Try.checked) own started (by kernel_rfl) Try.func4
    (ChangeSpec.witness6 (enc := enc) (C := Try.checked) false ⟨#[], #[.agg #[.slice none 0 0, .slice none 0 0]], []⟩ 8 (by kernel_rfl) (by kernel_rfl) (by kernel_rfl) (by kernel_rfl)) ?_
  intro W base args ds gs before hval0 hW _ hsz0 _
  have hval : ∀ (j : Nat) t v, Try.f4.params[j]? = some t → args[j]? = some v → Value.okWide Try.prog W .any base t v := hval0
  have hsz : (DataW.weightsEach Try.prog (Try.f4.params.toList ++ Rows.actorCopiesSpec.plain.varTypes Try.prog) (ds ++ gs)).all (· ≤ reachBytes) = true := hsz0
  have hW' := hW
  obtain ⟨p, q, hA0, hV, rfl, hfz, hnd⟩ := hW
  have hA : DataW.TrodAll enc Try.prog W 0 (fun _ => true) true Try.f4.params.toList args.toList ds p := hA0
  rw [Try.params4] at hA hval hsz
  obtain ⟨v0, vs0, d0, ds0, p0, q0, hargs, rfl, rfl, h0, r0⟩ := trodAll_cons hA
  obtain ⟨rfl, rfl, rfl⟩ := trodAll_nil r0
  obtain rfl : args = #[v0] := by cases args; simp_all
  obtain ⟨rfl, rfl⟩ := trodVars_none hV
  obtain ⟨x0, A0, c0, B0, e0, rfl, y0, z0⟩ := arg_wd h0 (hval 0 29 v0 rfl rfl) (sized_at hsz (j := 0) rfl rfl)
  clear hA0 hval0 hsz0
  refine (walk W x0 A0 c0 B0 e0 y0 z0).mono fun e W' ⟨he, hb⟩ => ?_
  subst he
  exact ⟨_, rfl, law_post (tb := 4) laidOut Try.underlying4 (by kernel_rfl) (by rw [Try.params4]; exact all_types (by kernel_rfl)) rfl hW' rfl hb⟩

theorem closed : joinedFacts Try.prog 4 Try.f4 Rows.actorCopiesSpec Rows.actorCopiesRow = true :=
  facts_of (by kernel_rfl) laidOut fact_rowed (by kernel_rfl) (by kernel_rfl) (by kernel_rfl) fact_stops (by kernel_rfl) fact_knobs (by kernel_rfl) (by kernel_rfl) (by kernel_rfl) (by kernel_rfl) (by kernel_rfl) (by kernel_rfl) (by kernel_rfl) (by kernel_rfl) (by kernel_rfl) (by kernel_rfl) (by kernel_rfl) (by kernel_rfl) (by kernel_rfl) (by kernel_rfl) (by kernel_rfl) fact_heard fact_may (by rw [fact_lifts]; rfl) fact_make ⟨rfl, rfl⟩ (by kernel_rfl) (by kernel_rfl) (by kernel_rfl)
theorem over : Rows.actorCopiesRow.holds Try.pinned (OpenSpec.ofChange Rows.actorCopiesSpec) :=
  OpenClaim.holds_of_wide 4 Try.f4 rfl rfl rfl rfl rfl rfl rfl ⟨rfl, rfl, rfl, rfl, rfl⟩ rfl rfl rfl rfl rfl (by kernel_rfl) Try.func4 closed
    (of_decide_eq_true (by kernel_rfl)) (by unfold Func.isWrapper; first | (rw [if_pos (by decide +kernel)]; kernel_rfl) | (rw [if_neg (by decide +kernel)]; exact ⟨rfl, rfl⟩))
    (fun os started H enc _ => lifted os started H enc)
/-- THE STATEMENT. -/
theorem proved : Rows.ActorCopiesSaid := over
#print axioms proved
end Go.Proofs.Ytedimclljhgomaa.lawActorCopies
