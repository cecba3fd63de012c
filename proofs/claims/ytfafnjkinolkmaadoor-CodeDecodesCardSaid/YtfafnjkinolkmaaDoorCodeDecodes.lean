/- THE STATEMENT 'CodeDecodes': for every input the call returns true, and each argument reads behind it as it did: proved out of the walks. Condition: the row's own: the table of operators reads as the program's text lays it, which the card ties. -/
import Derived.Test.YtfafnjkinolkmaaDoorBytesB
import Derived.Test.YtfafnjkinolkmaaDoorDecode
import Derived.Test.YtfafnjkinolkmaaDoorProgramOf
import Derived.Test.YtfafnjkinolkmaaDoorSameP
import Derived.Test.YtfafnjkinolkmaaDoorFacts
import Derived.Test.YtfafnjkinolkmaaDoorLaid
import Derived.Test.YtfafnjkinolkmaaDoorTie
import Derived.Test.YtfafnjkinolkmaaDoorCards
import Derived.SevenTiedAt
set_option maxRecDepth 100000
namespace Go.Proofs.YtfafnjkinolkmaaDoor.lawCodeDecodes
open Go.ChangeShapes Go.WideShapes Go.ChangeAt Go.RowKit
set_option linter.unusedVariables false

set_option maxHeartbeats 1000000 in
theorem walk (w : World) (l : List UInt8) (A : Option Addr) (c : Nat) (hr : RdSl bE w (fun _ => True) (.slice A l.length c) l) (hu : UsesAt w) :
    Calls Tryd.prog 5 #[.slice A l.length c] w fun e w' => e = .returned (.bool true) ∧ Below w.heap.size w w' := by
  obtain ⟨i0, hi0, hz0, hz1, hz2⟩ := info_parts infoU8
  have Hp := Lib.hid hr
  have Hu := Lib.hid hu
  have G1 := Lib.hid (fun W S A c (h : UsesAt W) (h' : RdSl bE W S (.slice A l.length c) l) => decode_any S A c l W h h')
  have G2 := Lib.hid (fun W S A c (h' : RdSl bE W S (.slice A l.length c) l) => programOf_any S A c l W h')
  obtain ⟨-, h1, h2, h3⟩ := hr.lims
  have h3' : l.length * 1 ≤ 140737488355328 := h3
  unfold DecD at G1 G2
  generalize okL (progD (I8 l)) = ps at *
  generalize errL (progD (I8 l)) = er at *
  have b3 : (er == er) = true := by simp
  clear hr hu h3
  go_enter Tryd.func5, Tryd.ntmps5
  go_wp2_with (at_builtin; go_loud (refine wpList_append_any _ rfl (.const (.slice none 0 0)) (.tmp 8) _ rfl w.heap.size 5 i0 _ 1 1 Tryd.underlying28 hi0 hz0 hz1 hz2 rfl (by omega) (.slice none 0 0) 0 [] rfl ⟨by simp, .inl ⟨rfl, rfl⟩⟩ A l.length c (bcs l) rfl (by rw [bcs_len]; omega) (fun ad hA => bcs_at Hp.out ad hA) (fun hA => bcs_nil Hp.out hA) (bcs_one l) (by unfold maxLen; omega) (by omega) (Nat.le_refl _) ?next))
  case next =>
    intro v1 w1 hown hg
    obtain ⟨A1, c1, rfl⟩ := own_form hown
    have hB : Below w.heap.size w w1 := (Below.refl _ _).grown hg (Nat.le_refl _) (fun k hk => by cases hk)
    have Hr1 := Lib.hid (own_bs hown h3')
    clear hown hg
    go_wp2_with fail
    refine (G1.out _ _ _ _ (Hu.out.below hB) Hr1.out).mono ?_
    rintro e w2 ⟨A2, c2, rfl, hr2, hb2⟩
    have hbb2 := below_after hB hb2
    have HL2 := Lib.hid (Locs.nil.new (w := w2) (cs := #[.slice A2 ps.length c2]) (t := 24) rfl)
    have hbb2' := hbb2.alloc hbb2.size (.cells #[.slice A2 ps.length c2] 24)
    have Hr2 := Lib.hid (hr2.below (by show 0 < 1; omega) ((Below.refl w2.heap.size w2).alloc (Nat.le_refl _) (.cells #[.slice A2 ps.length c2] 24)))
    have hz2s := hbb2.size
    clear hr2
    go_upto_region 2 with fail
    generalize w2.alloc (.cells #[.slice A2 ps.length c2] 24) = W2 at *
    go_wp2_with fail
    refine (G2.out _ _ _ _ (Hp.out.below (by decide) hbb2')).mono ?_
    rintro e w3 ⟨A3, c3, rfl, hr3, hb3⟩
    have hbb3 := below_after hbb2' hb3
    have HL3 := Lib.hid ((HL2.out.after hb3).new (cs := #[.slice A3 ps.length c3]) (t := 24) rfl)
    have hbb3' := hbb3.alloc hbb3.size (.cells #[.slice A3 ps.length c3] 24)
    have hbe : Below w3.heap.size w3 (w3.alloc (.cells #[.slice A3 ps.length c3] 24)) := (Below.refl _ _).alloc (Nat.le_refl _) _
    have Hr3 := Lib.hid (hr3.below (by show 0 < 1; omega) hbe)
    have Hr2' := Lib.hid ((Hr2.out.below (by show 0 < 1; omega) hb3).below (by show 0 < 1; omega) hbe)
    clear hr3 hbe
    go_upto_region 3 with fail
    generalize w3.alloc (.cells #[.slice A3 ps.length c3] 24) = W3 at *
    obtain ⟨p1, -, p2, -⟩ := HL3.out.rules
    dsimp only at p1 p2
    go_wp2_with fail
    refine (sameProgram_eq _ _ A2 A3 c2 c3 ps _ Hr2'.out Hr3.out).mono ?_
    rintro e w4 ⟨rfl, hb4⟩
    have hbb4 := below_after hbb3' hb4
    clear p1 p2
    go_wp2_with fail
    go_ret
    exact ⟨rfl, hbb4⟩

theorem lifted (os : Os) (started : os.Started) (H : Type) (enc : TypeId × Value → H) :
    ReturnsInHanded {} Tryd.checked os 5 .any (fun w args => (Rows.codeDecodesSpec.pre enc Tryd.prog Tryd.f5 [] false w args ∧ laidMetH Tryd.prog Rows.codeDecodesRow.laid w) ∧ sizedMet enc Tryd.prog Tryd.f5 (OpenSpec.ofChange Rows.codeDecodesSpec) false w args) (Rows.codeDecodesSpec.post enc Tryd.prog Tryd.f5 false true false false) := by
  refine returnsInHanded_of_change_and (C := Tryd.checked) (X := fun w _ => laidMetH Tryd.prog Rows.codeDecodesRow.laid w) (fun _ _ _ hh h => h.of_heap hh) own started (by kernel_rfl) Tryd.func5
    (ChangeSpec.witness_shaped (enc := enc) (C := Tryd.checked) (os := os) (X := fun w _ => laidMetH Tryd.prog Rows.codeDecodesRow.laid w) false (World.doorLaid Tryd.prog 400 os) #[.slice none 0 0] 8 rfl (World.shaped_of_RefB (by kernel_rfl) (by kernel_rfl)) (by kernel_rfl) (by kernel_rfl) (by kernel_rfl) (door_met os _)) ?_
  intro W base args ds gs before hval0 hW _ hsz0 hL _
  have hval : ∀ (j : Nat) t v, Tryd.f5.params[j]? = some t → args[j]? = some v → Value.okWide Tryd.prog W .any base t v := hval0
  have hsz : (DataW.weightsEach Tryd.prog (Tryd.f5.params.toList ++ Rows.codeDecodesSpec.plain.varTypes Tryd.prog) (ds ++ gs)).all (· ≤ reachBytes) = true := hsz0
  have hW' := hW
  obtain ⟨p, q, hA0, hV, rfl, hfz, hnd⟩ := hW
  have hA : DataW.TrodAll enc Tryd.prog W 0 (fun _ => true) true Tryd.f5.params.toList args.toList ds p := hA0
  rw [Tryd.params5] at hA hval hsz
  obtain ⟨v0, vs0, d0, ds0, p0, q0, hargs, rfl, rfl, h0, r0⟩ := trodAll_cons hA
  obtain ⟨rfl, rfl, rfl⟩ := trodAll_nil r0
  obtain rfl : args = #[v0] := by cases args; simp_all
  obtain ⟨rfl, rfl⟩ := trodVars_none hV
  obtain ⟨x0, A0, c0, rfl, y0⟩ := arg_bs h0 (hval 0 28 v0 rfl rfl) (sized_at hsz (j := 0) rfl rfl)
  clear hA0 hval0 hsz0
  refine (walk W x0 A0 c0 y0 (uses_of hL)).mono fun e W' ⟨he, hb⟩ => ?_
  subst he
  exact ⟨_, rfl, law_post (tb := 4) laidOut Tryd.underlying4 (by kernel_rfl) (by rw [Tryd.params5]; exact all_types (by kernel_rfl)) rfl hW' rfl hb⟩

theorem closed : joinedFacts Tryd.prog 5 Tryd.f5 Rows.codeDecodesSpec Rows.codeDecodesRow = true :=
  facts_of (by kernel_rfl) laidOut fact_rowed (by kernel_rfl) (by kernel_rfl) (by kernel_rfl) fact_stops (by kernel_rfl) fact_knobs (by kernel_rfl) (by kernel_rfl) (by kernel_rfl) (by kernel_rfl) (by kernel_rfl) (by kernel_rfl) (by kernel_rfl) (by kernel_rfl) (by kernel_rfl) (by kernel_rfl) (by kernel_rfl) (by kernel_rfl) (by kernel_rfl) (by kernel_rfl) (by kernel_rfl) fact_heard fact_may (by rw [fact_lifts]; rfl) fact_make ⟨rfl, rfl⟩ (by kernel_rfl) (by kernel_rfl) (by kernel_rfl)
theorem over : Rows.codeDecodesRow.holds Tryd.pinned (OpenSpec.ofChange Rows.codeDecodesSpec) :=
  OpenClaim.holds_of_wide 5 Tryd.f5 rfl rfl rfl rfl rfl rfl rfl ⟨rfl, rfl, rfl, rfl, rfl⟩ rfl rfl rfl rfl rfl (by kernel_rfl) Tryd.func5 closed
    (of_decide_eq_true (by kernel_rfl)) (by unfold Func.isWrapper; first | (rw [if_pos (by decide +kernel)]; kernel_rfl) | (rw [if_neg (by decide +kernel)]; exact ⟨rfl, rfl⟩))
    (fun os started H enc _ => lifted os started H enc)
/-- THE STATEMENT: the tied card. -/
theorem proved : Rows.CodeDecodesCardSaid := by
  unfold Rows.CodeDecodesCardSaid Rows.codeDecodesCard
  exact Claim7.holds_tied_plain_at .later [] [.data] true _ _ over (fun _ h => by cases h) (by kernel_rfl) (fun _ h => by cases h) codeDecodes_row_tie rfl ⟨rfl, rfl⟩ (by kernel_rfl) rfl
    (fun f fn hf hfn => by
      obtain rfl : f = 5 := Option.some.inj ((show Tryd.prog.funcNamed "treadwheel/treadwheellaw.CodeDecodes" = some 5 by kernel_rfl).symm.trans hf) |>.symm
      obtain rfl : fn = Tryd.f5 := (Option.some.inj (Tryd.func5.symm.trans hfn)).symm
      exact ⟨by kernel_rfl, fun j t ht => by
        rw [Tryd.params5] at ht
        have hm : t ∈ ([28] : List TypeId) := by simpa using Array.mem_of_getElem? ht
        have hall : (([28] : List TypeId).all fun u => !Tryd.prog.wantsStandIn u) = true := by kernel_rfl
        exact (show Tryd.prog.wantsStandIn t = false by simpa using List.all_eq_true.1 hall t hm)⟩)
    (by kernel_rfl)
#print axioms proved
end Go.Proofs.YtfafnjkinolkmaaDoor.lawCodeDecodes
