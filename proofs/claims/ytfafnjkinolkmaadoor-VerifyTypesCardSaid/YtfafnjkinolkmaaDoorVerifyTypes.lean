/- THE STATEMENT 'VerifyTypes': for every input the call returns true, and each argument reads behind it as it did: proved out of the walks. Condition: the row's own: the table of operators reads as the program's text lays it, which the card ties. -/
import Derived.Test.YtfafnjkinolkmaaDoorTypes
import Derived.Test.YtfafnjkinolkmaaDoorTypesOf
import Derived.Test.YtfafnjkinolkmaaDoorSameI
import Derived.Test.YtfafnjkinolkmaaDoorFacts
import Derived.Test.YtfafnjkinolkmaaDoorLaid
import Derived.Test.YtfafnjkinolkmaaDoorTie
import Derived.Test.YtfafnjkinolkmaaDoorCards
import Derived.SevenTiedAt
set_option maxRecDepth 100000
namespace Go.Proofs.YtfafnjkinolkmaaDoor.lawVerifyTypes
open Go.ChangeShapes Go.WideShapes Go.ChangeAt Go.RowKit
set_option linter.unusedVariables false

set_option maxHeartbeats 1000000 in
theorem walk (w : World) (ps : List (List Ins)) (A : Option Addr) (c : Nat) (hp : RdSl (slE insE (by decide)) w (fun _ => True) (.slice A ps.length c) ps) (kd : Int) (_hk : -9223372036854775808 ≤ kd ∧ kd ≤ 9223372036854775807) (hu : UsesAt w) :
    Calls Tryd.prog 6 #[.agg #[.slice A ps.length c], .int .i64 kd] w fun e w' => e = .returned (.bool true) ∧ Below w.heap.size w w' := by
  have hB : Below w.heap.size w (w.alloc (.cells #[.slice A ps.length c] 24)) := (Below.refl _ _).alloc (Nat.le_refl _) _
  have HL0 := Lib.hid (Locs.nil.new (w := w) (cs := #[.slice A ps.length c]) (t := 24) rfl)
  have G1 := Lib.hid (fun W S (h : UsesAt W) (h' : RdSl pgE W S (.slice A ps.length c) ps) => types_any S A c ps kd W h h')
  have G2 := Lib.hid (fun W S (h' : RdSl pgE W S (.slice A ps.length c) ps) => typesOf_any S A c ps kd W h')
  have Hp := Lib.hid hp
  have Hu := Lib.hid hu
  clear hp hu
  generalize typesP ps kd = r at *
  obtain ⟨r1, r2⟩ := r
  unfold TypesD at G1 G2
  dsimp only at G1 G2
  have b1 : (r2 == r2) = true := by simp
  go_enter Tryd.func6, Tryd.ntmps6
  go_wp2_with fail
  refine (G1.out _ _ (Hu.out.below hB) (Hp.out.below (by show 0 < 1; omega) hB)).mono ?_
  rintro e w1 ⟨A1, c1, rfl, hr1, hb1⟩
  have hbb1 := below_after hB hb1
  obtain ⟨p0, -⟩ := (HL0.out.after hb1).rules
  dsimp only at p0
  have Hr1 := Lib.hid hr1
  clear hr1
  go_wp2_with fail
  refine (G2.out _ _ (Hp.out.below (by show 0 < 1; omega) hbb1)).mono ?_
  rintro e w2 ⟨A2, c2, rfl, hr2, hb2⟩
  have hbb2 := below_after hbb1 hb2
  have Hr2 := Lib.hid hr2
  clear hr2
  go_wp2_with fail
  refine (sameRows_eq _ _ A1 A2 c1 c2 r1 _ (RdSl.below (E := liE) Hr1.out (by show 0 < 1; omega) hb2) Hr2.out).mono ?_
  rintro e w3 ⟨rfl, q, rfl⟩
  go_wp2_with fail
  go_ret
  exact ⟨rfl, hbb2.os, hbb2.tape, hbb2.output, hbb2.size, hbb2.block⟩

theorem lifted (os : Os) (started : os.Started) (H : Type) (enc : TypeId × Value → H) :
    ReturnsInHanded {} Tryd.checked os 6 .any (fun w args => (Rows.verifyTypesSpec.pre enc Tryd.prog Tryd.f6 [] false w args ∧ laidMetH Tryd.prog Rows.verifyTypesRow.laid w) ∧ sizedMet enc Tryd.prog Tryd.f6 (OpenSpec.ofChange Rows.verifyTypesSpec) false w args) (Rows.verifyTypesSpec.post enc Tryd.prog Tryd.f6 false true false false) := by
  refine returnsInHanded_of_change_and (C := Tryd.checked) (X := fun w _ => laidMetH Tryd.prog Rows.verifyTypesRow.laid w) (fun _ _ _ hh h => h.of_heap hh) own started (by kernel_rfl) Tryd.func6
    (ChangeSpec.witness_shaped (enc := enc) (C := Tryd.checked) (os := os) (X := fun w _ => laidMetH Tryd.prog Rows.verifyTypesRow.laid w) false (World.doorLaid Tryd.prog 400 os) #[.agg #[.slice none 0 0], .int .i64 0] 8 rfl (World.shaped_of_RefB (by kernel_rfl) (by kernel_rfl)) (by kernel_rfl) (by kernel_rfl) (by kernel_rfl) (door_met os _)) ?_
  intro W base args ds gs before hval0 hW _ hsz0 hL _
  have hval : ∀ (j : Nat) t v, Tryd.f6.params[j]? = some t → args[j]? = some v → Value.okWide Tryd.prog W .any base t v := hval0
  have hsz : (DataW.weightsEach Tryd.prog (Tryd.f6.params.toList ++ Rows.verifyTypesSpec.plain.varTypes Tryd.prog) (ds ++ gs)).all (· ≤ reachBytes) = true := hsz0
  have hW' := hW
  obtain ⟨p, q, hA0, hV, rfl, hfz, hnd⟩ := hW
  have hA : DataW.TrodAll enc Tryd.prog W 0 (fun _ => true) true Tryd.f6.params.toList args.toList ds p := hA0
  rw [Tryd.params6] at hA hval hsz
  obtain ⟨v0, vs0, d0, ds0, p0, q0, hargs, rfl, rfl, h0, r0⟩ := trodAll_cons hA
  obtain ⟨v1, vs1, d1, ds1, p1, q1, rfl, rfl, rfl, h1, r1⟩ := trodAll_cons r0
  obtain ⟨rfl, rfl, rfl⟩ := trodAll_nil r1
  obtain rfl : args = #[v0, v1] := by cases args; simp_all
  obtain ⟨rfl, rfl⟩ := trodVars_none hV
  obtain ⟨x0, A0, c0, rfl, y0⟩ := arg_pg h0 (hval 0 24 v0 rfl rfl) (sized_at hsz (j := 0) rfl rfl)
  obtain ⟨a1, rfl, -, -, w1⟩ := open_int Tryd.underlying3 (hval 1 3 v1 rfl rfl) h1
  clear hA0 hval0 hsz0
  refine (walk W x0 A0 c0 y0 a1 (wf_i64_range w1) (uses_of hL)).mono fun e W' ⟨he, hb⟩ => ?_
  subst he
  exact ⟨_, rfl, law_post (tb := 4) laidOut Tryd.underlying4 (by kernel_rfl) (by rw [Tryd.params6]; exact all_types (by kernel_rfl)) rfl hW' rfl hb⟩

theorem closed : joinedFacts Tryd.prog 6 Tryd.f6 Rows.verifyTypesSpec Rows.verifyTypesRow = true :=
  facts_of (by kernel_rfl) laidOut fact_rowed (by kernel_rfl) (by kernel_rfl) (by kernel_rfl) fact_stops (by kernel_rfl) fact_knobs (by kernel_rfl) (by kernel_rfl) (by kernel_rfl) (by kernel_rfl) (by kernel_rfl) (by kernel_rfl) (by kernel_rfl) (by kernel_rfl) (by kernel_rfl) (by kernel_rfl) (by kernel_rfl) (by kernel_rfl) (by kernel_rfl) (by kernel_rfl) (by kernel_rfl) fact_heard fact_may (by rw [fact_lifts]; rfl) fact_make ⟨rfl, rfl⟩ (by kernel_rfl) (by kernel_rfl) (by kernel_rfl)
theorem over : Rows.verifyTypesRow.holds Tryd.pinned (OpenSpec.ofChange Rows.verifyTypesSpec) :=
  OpenClaim.holds_of_wide 6 Tryd.f6 rfl rfl rfl rfl rfl rfl rfl ⟨rfl, rfl, rfl, rfl, rfl⟩ rfl rfl rfl rfl rfl (by kernel_rfl) Tryd.func6 closed
    (of_decide_eq_true (by kernel_rfl)) (by unfold Func.isWrapper; first | (rw [if_pos (by decide +kernel)]; kernel_rfl) | (rw [if_neg (by decide +kernel)]; exact ⟨rfl, rfl⟩))
    (fun os started H enc _ => lifted os started H enc)
/-- THE STATEMENT: the tied card. -/
theorem proved : Rows.VerifyTypesCardSaid := by
  unfold Rows.VerifyTypesCardSaid Rows.verifyTypesCard
  exact Claim7.holds_tied_plain_at .later [] [.data] true _ _ over (fun _ h => by cases h) (by kernel_rfl) (fun _ h => by cases h) verifyTypes_row_tie rfl ⟨rfl, rfl⟩ (by kernel_rfl) rfl
    (fun f fn hf hfn => by
      obtain rfl : f = 6 := Option.some.inj ((show Tryd.prog.funcNamed "treadwheel/treadwheellaw.VerifyTypes" = some 6 by kernel_rfl).symm.trans hf) |>.symm
      obtain rfl : fn = Tryd.f6 := (Option.some.inj (Tryd.func6.symm.trans hfn)).symm
      exact ⟨by kernel_rfl, fun j t ht => by
        rw [Tryd.params6] at ht
        have hm : t ∈ ([24, 3] : List TypeId) := by simpa using Array.mem_of_getElem? ht
        have hall : (([24, 3] : List TypeId).all fun u => !Tryd.prog.wantsStandIn u) = true := by kernel_rfl
        exact (show Tryd.prog.wantsStandIn t = false by simpa using List.all_eq_true.1 hall t hm)⟩)
    (by kernel_rfl)
#print axioms proved
end Go.Proofs.YtfafnjkinolkmaaDoor.lawVerifyTypes
