/- THE STATEMENT 'CodeCopies': for every input the call returns true, and each argument reads behind it as it did: proved out of the walks. No condition beside the row's own. -/
import Derived.Test.YtgbhckojnlfkdaaCopyP
import Derived.Test.YtgbhckojnlfkdaaSameP
import Derived.Test.YtgbhckojnlfkdaaArgs
import Derived.Test.YtgbhckojnlfkdaaFacts
set_option maxRecDepth 100000
namespace Go.Proofs.Ytgbhckojnlfkdaa.lawCodeCopies
open Go.ChangeShapes Go.WideShapes Go.ChangeAt Go.RowKit
set_option linter.unusedVariables false

set_option maxHeartbeats 400000 in
theorem walk (w : World) (ps : List (List Ins)) (A : Option Addr) (c : Nat) (hp : RdSl (slE insE (by decide)) w (fun _ => True) (.slice A ps.length c) ps) :
    Calls Try.prog 7 #[.agg #[.slice A ps.length c]] w fun e w' => e = .returned (.bool true) ∧ Below w.heap.size w w' := by
  have Hp := Lib.hid hp
  clear hp
  have hB : Below w.heap.size w (w.alloc (.cells #[.slice A ps.length c] 38)) := (Below.refl _ _).alloc (Nat.le_refl _) _
  go_enter Try.func7, Try.ntmps7
  go_wp2_with fail
  refine (copyP_any _ A c ps _ (Hp.out.below (by show 0 < 1; omega) hB)).mono ?_
  rintro e w1 ⟨v, rfl, ⟨s, hs, hr⟩, hb1⟩
  obtain ⟨A', c', hs', _⟩ := hr.form
  subst hs'
  subst hs
  have Hr := Lib.hid hr
  clear hr
  have q0 : w1.cell? ⟨w.heap.size, 0, none⟩ = some (.slice A ps.length c) := cell_new hb1 0
  have hz : w.heap.size < w1.heap.size := by have := hb1.size; simp at this; omega
  go_wp2_with fail
  refine (sameProgram_eq _ _ A' A c' c ps _ (Hr.out.below (by show 0 < 1; omega) ((Below.refl _ _).alloc (Nat.le_refl _) _)) (((Hp.out.below (by show 0 < 1; omega) hB).below (by show 0 < 1; omega) hb1).below (by show 0 < 1; omega) ((Below.refl _ _).alloc (Nat.le_refl _) _))).mono ?_
  rintro e w2 ⟨rfl, hb2⟩
  go_wp2
  go_ret
  exact ⟨rfl, ((hB.trans (hb1.mono (by simp))).alloc (by omega) _).trans (hb2.mono (by simp; omega))⟩

theorem lifted (os : Os) (started : os.Started) (H : Type) (enc : TypeId × Value → H) :
    ReturnsInHanded {} Try.checked os 7 .any (Rows.codeCopiesSpec.pre6 enc Try.prog Try.f7 Rows.codeCopiesRow.domain false) (Rows.codeCopiesSpec.post enc Try.prog Try.f7 false true false false) := by
  refine returnsInHanded_of_change_sized (C := Try.checked) own started (by kernel_rfl) Try.func7
    (ChangeSpec.witness6 (enc := enc) (C := Try.checked) false ⟨#[], #[.agg #[.slice none 0 0]], []⟩ 8 (by kernel_rfl) (by kernel_rfl) (by kernel_rfl) (by kernel_rfl)) ?_
  intro W base args ds gs before hval0 hW _ hsz0 _
  have hval : ∀ (j : Nat) t v, Try.f7.params[j]? = some t → args[j]? = some v → Value.okWide Try.prog W .any base t v := hval0
  have hsz : (DataW.weightsEach Try.prog (Try.f7.params.toList ++ Rows.codeCopiesSpec.plain.varTypes Try.prog) (ds ++ gs)).all (· ≤ reachBytes) = true := hsz0
  have hW' := hW
  obtain ⟨p, q, hA0, hV, rfl, hfz, hnd⟩ := hW
  have hA : DataW.TrodAll enc Try.prog W 0 (fun _ => true) true Try.f7.params.toList args.toList ds p := hA0
  rw [Try.params7] at hA hval hsz
  obtain ⟨v0, vs0, d0, ds0, p0, q0, hargs, rfl, rfl, h0, r0⟩ := trodAll_cons hA
  obtain ⟨rfl, rfl, rfl⟩ := trodAll_nil r0
  obtain rfl : args = #[v0] := by cases args; simp_all
  obtain ⟨rfl, rfl⟩ := trodVars_none hV
  obtain ⟨x0, A0, c0, rfl, y0⟩ := arg_pg h0 (hval 0 38 v0 rfl rfl) (sized_at hsz (j := 0) rfl rfl)
  clear hA0 hval0 hsz0
  refine (walk W x0 A0 c0 y0).mono fun e W' ⟨he, hb⟩ => ?_
  subst he
  exact ⟨_, rfl, law_post (tb := 4) laidOut Try.underlying4 (by kernel_rfl) (by rw [Try.params7]; exact all_types (by kernel_rfl)) rfl hW' rfl hb⟩

theorem closed : joinedFacts Try.prog 7 Try.f7 Rows.codeCopiesSpec Rows.codeCopiesRow = true :=
  facts_of (by kernel_rfl) laidOut fact_rowed (by kernel_rfl) (by kernel_rfl) (by kernel_rfl) fact_stops (by kernel_rfl) fact_knobs (by kernel_rfl) (by kernel_rfl) (by kernel_rfl) (by kernel_rfl) (by kernel_rfl) (by kernel_rfl) (by kernel_rfl) (by kernel_rfl) (by kernel_rfl) (by kernel_rfl) (by kernel_rfl) (by kernel_rfl) (by kernel_rfl) (by kernel_rfl) (by kernel_rfl) fact_heard fact_may (by rw [fact_lifts]; rfl) fact_make ⟨rfl, rfl⟩ (by kernel_rfl) (by kernel_rfl) (by kernel_rfl)
theorem over : Rows.codeCopiesRow.holds Try.pinned (OpenSpec.ofChange Rows.codeCopiesSpec) :=
  OpenClaim.holds_of_wide 7 Try.f7 rfl rfl rfl rfl rfl rfl rfl ⟨rfl, rfl, rfl, rfl, rfl⟩ rfl rfl rfl rfl rfl (by kernel_rfl) Try.func7 closed
    (of_decide_eq_true (by kernel_rfl)) (by unfold Func.isWrapper; first | (rw [if_pos (by decide +kernel)]; kernel_rfl) | (rw [if_neg (by decide +kernel)]; exact ⟨rfl, rfl⟩))
    (fun os started H enc _ => lifted os started H enc)
/-- THE STATEMENT. -/
theorem proved : Rows.CodeCopiesSaid := over
#print axioms proved
end Go.Proofs.Ytgbhckojnlfkdaa.lawCodeCopies
