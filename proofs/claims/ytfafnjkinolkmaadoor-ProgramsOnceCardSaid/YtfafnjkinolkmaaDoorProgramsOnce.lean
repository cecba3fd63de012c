/- THE STATEMENT 'ProgramsOnce': for every input the call returns true, and each argument reads behind it as it did: proved out of the walks. Condition: the row's own: the table of operators reads as the program's text lays it, which the card ties. -/
import Derived.Test.YtfafnjkinolkmaaDoorBytesB
import Derived.Test.YtfafnjkinolkmaaDoorDecode
import Derived.Test.YtfafnjkinolkmaaDoorEncode
import Derived.Test.YtfafnjkinolkmaaDoorFacts
import Derived.Test.YtfafnjkinolkmaaDoorLaid
import Derived.Test.YtfafnjkinolkmaaDoorTie
import Derived.Test.YtfafnjkinolkmaaDoorCards
import Derived.SevenTiedAt
set_option maxRecDepth 100000
namespace Go.Proofs.YtfafnjkinolkmaaDoor.lawProgramsOnce
open Go.ChangeShapes Go.WideShapes Go.ChangeAt Go.RowKit
set_option linter.unusedVariables false

set_option maxHeartbeats 1000000 in
theorem walk (w : World) (l : List UInt8) (A : Option Addr) (c : Nat) (hr : RdSl bE w (fun _ => True) (.slice A l.length c) l) (hu : UsesAt w) :
    Calls Tryd.prog 7 #[.slice A l.length c] w fun e w' => e = .returned (.bool true) ∧ Below w.heap.size w w' := by
  have Hp := Lib.hid hr
  have Hu := Lib.hid hu
  have G1 := Lib.hid (decode_any _ A c l w hu hr)
  unfold DecD at G1
  clear hr hu
  cases hD : progD (I8 l) with
  | error er =>
    have he : (er != 0) = true := by simpa using progD_errn hD
    rw [hD] at G1
    dsimp only [okL, errL] at G1
    clear hD
    go_enter Tryd.func7, Tryd.ntmps7
    go_wp2_with fail
    refine G1.out.mono ?_
    rintro e w2 ⟨A2, c2, rfl, -, hb2⟩
    have HL2 := Lib.hid (Locs.nil.new (w := w2) (cs := #[.slice A2 ([] : List (List Ins)).length c2]) (t := 24) rfl)
    have hbb2' := hb2.alloc hb2.size (.cells #[.slice A2 ([] : List (List Ins)).length c2] 24)
    go_upto_region 2 with fail
    generalize w2.alloc (.cells #[.slice A2 ([] : List (List Ins)).length c2] 24) = W2 at *
    obtain ⟨p1, -⟩ := HL2.out.rules
    dsimp only at p1
    go_wp2_with fail
    go_ret
    exact ⟨rfl, hbb2'⟩
  | ok ps =>
    obtain ⟨hf, hb⟩ := progD_back (I8_all l) hD
    rw [hD] at G1
    dsimp only [okL, errL] at G1
    have G2 := Lib.hid (fun W S A c (h : UsesAt W) (h' : RdSl pgE W S (.slice A ps.length c) ps) => encode_any S A c ps W h h')
    have hx : encL ps = I8 l := by unfold encL; rw [if_pos hf, hb]
    unfold EncD at G2
    rw [hf, hx] at G2
    clear hD hf hb hx
    go_enter Tryd.func7, Tryd.ntmps7
    go_wp2_with fail
    refine G1.out.mono ?_
    rintro e w2 ⟨A2, c2, rfl, hr2, hb2⟩
    have HL2 := Lib.hid (Locs.nil.new (w := w2) (cs := #[.slice A2 ps.length c2]) (t := 24) rfl)
    have hbb2' := hb2.alloc hb2.size (.cells #[.slice A2 ps.length c2] 24)
    have Hr2 := Lib.hid (hr2.below (by show 0 < 1; omega) ((Below.refl w2.heap.size w2).alloc (Nat.le_refl _) (.cells #[.slice A2 ps.length c2] 24)))
    clear hr2
    go_upto_region 2 with fail
    generalize w2.alloc (.cells #[.slice A2 ps.length c2] 24) = W2 at *
    obtain ⟨p1, -⟩ := HL2.out.rules
    dsimp only at p1
    go_wp2_with fail
    refine (G2.out _ _ _ _ (Hu.out.below hbb2') Hr2.out).mono ?_
    rintro e w3 ⟨B3, d3, rfl, hown3, hb3⟩
    have hbb3 := below_after hbb2' hb3
    have c1 := conv_own hown3
    have c2' := conv_rd (Hp.out.below (by decide) hbb3)
    clear hown3 p1
    go_wp2_with fail
    go_ret
    exact ⟨rfl, hbb3⟩

theorem lifted (os : Os) (started : os.Started) (H : Type) (enc : TypeId × Value → H) :
    ReturnsInHanded {} Tryd.checked os 7 .any (fun w args => (Rows.programsOnceSpec.pre enc Tryd.prog Tryd.f7 [] false w args ∧ laidMetH Tryd.prog Rows.programsOnceRow.laid w) ∧ sizedMet enc Tryd.prog Tryd.f7 (OpenSpec.ofChange Rows.programsOnceSpec) false w args) (Rows.programsOnceSpec.post enc Tryd.prog Tryd.f7 false true false false) := by
  refine returnsInHanded_of_change_and (C := Tryd.checked) (X := fun w _ => laidMetH Tryd.prog Rows.programsOnceRow.laid w) (fun _ _ _ hh h => h.of_heap hh) own started (by kernel_rfl) Tryd.func7
    (ChangeSpec.witness_shaped (enc := enc) (C := Tryd.checked) (os := os) (X := fun w _ => laidMetH Tryd.prog Rows.programsOnceRow.laid w) false (World.doorLaid Tryd.prog 400 os) #[.slice none 0 0] 8 rfl (World.shaped_of_RefB (by kernel_rfl) (by kernel_rfl)) (by kernel_rfl) (by kernel_rfl) (by kernel_rfl) (door_met os _)) ?_
  intro W base args ds gs before hval0 hW _ hsz0 hL _
  have hval : ∀ (j : Nat) t v, Tryd.f7.params[j]? = some t → args[j]? = some v → Value.okWide Tryd.prog W .any base t v := hval0
  have hsz : (DataW.weightsEach Tryd.prog (Tryd.f7.params.toList ++ Rows.programsOnceSpec.plain.varTypes Tryd.prog) (ds ++ gs)).all (· ≤ reachBytes) = true := hsz0
  have hW' := hW
  obtain ⟨p, q, hA0, hV, rfl, hfz, hnd⟩ := hW
  have hA : DataW.TrodAll enc Tryd.prog W 0 (fun _ => true) true Tryd.f7.params.toList args.toList ds p := hA0
  rw [Tryd.params7] at hA hval hsz
  obtain ⟨v0, vs0, d0, ds0, p0, q0, hargs, rfl, rfl, h0, r0⟩ := trodAll_cons hA
  obtain ⟨rfl, rfl, rfl⟩ := trodAll_nil r0
  obtain rfl : args = #[v0] := by cases args; simp_all
  obtain ⟨rfl, rfl⟩ := trodVars_none hV
  obtain ⟨x0, A0, c0, rfl, y0⟩ := arg_bs h0 (hval 0 28 v0 rfl rfl) (sized_at hsz (j := 0) rfl rfl)
  clear hA0 hval0 hsz0
  refine (walk W x0 A0 c0 y0 (uses_of hL)).mono fun e W' ⟨he, hb⟩ => ?_
  subst he
  exact ⟨_, rfl, law_post (tb := 4) laidOut Tryd.underlying4 (by kernel_rfl) (by rw [Tryd.params7]; exact all_types (by kernel_rfl)) rfl hW' rfl hb⟩

theorem closed : joinedFacts Tryd.prog 7 Tryd.f7 Rows.programsOnceSpec Rows.programsOnceRow = true :=
  facts_of (by kernel_rfl) laidOut fact_rowed (by kernel_rfl) (by kernel_rfl) (by kernel_rfl) fact_stops (by kernel_rfl) fact_knobs (by kernel_rfl) (by kernel_rfl) (by kernel_rfl) (by kernel_rfl) (by kernel_rfl) (by kernel_rfl) (by kernel_rfl) (by kernel_rfl) (by kernel_rfl) (by kernel_rfl) (by kernel_rfl) (by kernel_rfl) (by kernel_rfl) (by kernel_rfl) (by kernel_rfl) fact_heard fact_may (by rw [fact_lifts]; rfl) fact_make ⟨rfl, rfl⟩ (by kernel_rfl) (by kernel_rfl) (by kernel_rfl)
theorem over : Rows.programsOnceRow.holds Tryd.pinned (OpenSpec.ofChange Rows.programsOnceSpec) :=
  OpenClaim.holds_of_wide 7 Tryd.f7 rfl rfl rfl rfl rfl rfl rfl ⟨rfl, rfl, rfl, rfl, rfl⟩ rfl rfl rfl rfl rfl (by kernel_rfl) Tryd.func7 closed
    (of_decide_eq_true (by kernel_rfl)) (by unfold Func.isWrapper; first | (rw [if_pos (by decide +kernel)]; kernel_rfl) | (rw [if_neg (by decide +kernel)]; exact ⟨rfl, rfl⟩))
    (fun os started H enc _ => lifted os started H enc)
/-- THE STATEMENT: the tied card. -/
theorem proved : Rows.ProgramsOnceCardSaid := by
  unfold Rows.ProgramsOnceCardSaid Rows.programsOnceCard
  exact Claim7.holds_tied_plain_at .later [] [.data] true _ _ over (fun _ h => by cases h) (by kernel_rfl) (fun _ h => by cases h) programsOnce_row_tie rfl ⟨rfl, rfl⟩ (by kernel_rfl) rfl
    (fun f fn hf hfn => by
      obtain rfl : f = 7 := Option.some.inj ((show Tryd.prog.funcNamed "treadwheel/treadwheelkeep.ProgramsOnce" = some 7 by kernel_rfl).symm.trans hf) |>.symm
      obtain rfl : fn = Tryd.f7 := (Option.some.inj (Tryd.func7.symm.trans hfn)).symm
      exact ⟨by kernel_rfl, fun j t ht => by
        rw [Tryd.params7] at ht
        have hm : t ∈ ([28] : List TypeId) := by simpa using Array.mem_of_getElem? ht
        have hall : (([28] : List TypeId).all fun u => !Tryd.prog.wantsStandIn u) = true := by kernel_rfl
        exact (show Tryd.prog.wantsStandIn t = false by simpa using List.all_eq_true.1 hall t hm)⟩)
    (by kernel_rfl)
#print axioms proved
end Go.Proofs.YtfafnjkinolkmaaDoor.lawProgramsOnce
