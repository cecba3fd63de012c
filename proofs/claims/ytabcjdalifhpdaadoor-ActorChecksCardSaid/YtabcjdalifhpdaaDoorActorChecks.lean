/- THE STATEMENT 'ActorChecks': for every input the call returns true, and each argument reads behind it as it did: proved out of the walks. Condition: the row's own: the table of operators reads as the program's text lays it, which the card ties. -/
import Derived.Test.YtabcjdalifhpdaaDoorChkW
import Derived.Test.YtabcjdalifhpdaaDoorChkF
import Derived.Test.YtabcjdalifhpdaaDoorFacts
import Derived.Test.YtabcjdalifhpdaaDoorLaid
import Derived.Test.YtabcjdalifhpdaaDoorTie
import Derived.Test.YtabcjdalifhpdaaDoorCards
import Derived.SevenTiedAt
set_option maxRecDepth 100000
namespace Go.Proofs.YtabcjdalifhpdaaDoor.lawActorChecks
open Go.ChangeShapes Go.WideShapes Go.ChangeAt Go.RowKit
set_option linter.unusedVariables false

set_option maxRecDepth 100000 in
set_option maxHeartbeats 4000000 in
theorem walk (w : World) (ps : List (List Ins)) (Ap : Option Addr) (cp : Nat) (hp : RdSl (slE insE (by decide)) w (fun _ => True) (.slice Ap ps.length cp) ps) (W : Wd) (A : Option Addr) (c : Nat) (Bp : Option Addr) (d : Nat) (hq : RdSl acE w (fun _ => True) (.slice A W.actors.length c) W.actors) (ht : RdSl tdE w (fun _ => True) (.slice Bp W.prints.length d) W.prints) (hu : UsesAt w) :
    Calls Tryd.prog 8 #[.agg #[.slice Ap ps.length cp], .agg #[.slice A W.actors.length c, .slice Bp W.prints.length d]] w fun e w' => e = .returned (.bool true) ∧ Below w.heap.size w w' := by
  obtain ⟨acs, ts⟩ := W
  dsimp only at hq ht ⊢
  have Hr := Lib.hid (show RdSl pgE w (fun _ => True) (.slice Ap ps.length cp) ps from hp)
  have Hq := Lib.hid hq
  have Ht := Lib.hid ht
  have Hu := Lib.hid hu
  clear hp hq ht hu
  obtain ⟨z, hz9⟩ : ∃ z, worldE ps ⟨acs, ts⟩ = z := ⟨_, rfl⟩
  have HZ := Lib.hid hz9
  clear hz9
  have T0 : St w.heap.size w (((w.alloc (.cells #[.slice Ap ps.length cp] 26)).alloc (.cells #[.slice A acs.length c, .slice Bp ts.length d] 32))) [.blk (w.heap.size + 1) #[.slice A acs.length c, .slice Bp ts.length d] 32, .blk w.heap.size #[.slice Ap ps.length cp] 26] := ((((St.start w (Nat.le_refl _)).new' #[.slice Ap ps.length cp] 26 (w.heap.size) (by simp)).1).new' #[.slice A acs.length c, .slice Bp ts.length d] 32 (w.heap.size + 1) (by simp)).1
  have HT := Lib.hid T0
  have hz : w.heap.size + 1 + 1 ≤ ((w.alloc (.cells #[.slice Ap ps.length cp] 26)).alloc (.cells #[.slice A acs.length c, .slice Bp ts.length d] 32)).heap.size := by simp
  clear T0
  replace Hr : Hid (RdSl pgE (((w.alloc (.cells #[.slice Ap ps.length cp] 26)).alloc (.cells #[.slice A acs.length c, .slice Bp ts.length d] 32))) (Fr 0 [.blk (w.heap.size + 1) #[.slice A acs.length c, .slice Bp ts.length d] 32, .blk w.heap.size #[.slice Ap ps.length cp] 26]) (.slice Ap ps.length cp) ps) := Lib.hid (RdSl.pool (E := pgE) Hr.out (by show 0 < 1; omega) HT.out)
  replace Hq : Hid (RdSl acE (((w.alloc (.cells #[.slice Ap ps.length cp] 26)).alloc (.cells #[.slice A acs.length c, .slice Bp ts.length d] 32))) (Fr 0 [.blk (w.heap.size + 1) #[.slice A acs.length c, .slice Bp ts.length d] 32, .blk w.heap.size #[.slice Ap ps.length cp] 26]) (.slice A acs.length c) acs) := Lib.hid (RdSl.pool (E := acE) Hq.out (by decide) HT.out)
  replace Ht : Hid (RdSl tdE (((w.alloc (.cells #[.slice Ap ps.length cp] 26)).alloc (.cells #[.slice A acs.length c, .slice Bp ts.length d] 32))) (Fr 0 [.blk (w.heap.size + 1) #[.slice A acs.length c, .slice Bp ts.length d] 32, .blk w.heap.size #[.slice Ap ps.length cp] 26]) (.slice Bp ts.length d) ts) := Lib.hid (RdSl.pool (E := tdE) Ht.out (by decide) HT.out)
  go_enter Tryd.func8, Tryd.ntmps8
  go_upto_region 1 with fail
  generalize ((w.alloc (.cells #[.slice Ap ps.length cp] 26)).alloc (.cells #[.slice A acs.length c, .slice Bp ts.length d] 32)) = W1 at *
  obtain ⟨r_w, q_w, r_p, q_p, -⟩ := HT.out.rules
  have z_w : w.heap.size + 1 < W1.heap.size := (HT.out.in_ 0 rfl rfl).2
  have z_p : w.heap.size < W1.heap.size := (HT.out.in_ 1 rfl rfl).2
  go_wp2_with fail
  have G9 := checkW_any _ _ _ Ap cp ps A c acs Bp d ts W1 (Hu.out.below HT.out.below) Hr.out Hq.out Ht.out
  rw [HZ.out] at G9
  refine (G9).mono ?_
  rintro en W2 ⟨rfl, hb⟩
  clear r_w q_w r_p q_p z_w z_p
  obtain ⟨T', K'⟩ := HT.out.call hb
  replace HT := Lib.hid T'
  replace Hr := Lib.hid (Hr.out.move (by show 0 < 1; omega) K')
  replace Hq := Lib.hid (Hq.out.move (by decide) K')
  replace Ht := Lib.hid (Ht.out.move (by decide) K')
  clear T' K'
  replace hz : w.heap.size + 1 + 1 ≤ W2.heap.size := Nat.le_trans hz hb.size
  clear hb
  obtain ⟨r_w, q_w, r_p, q_p, -⟩ := HT.out.rules
  have z_w : w.heap.size + 1 < W2.heap.size := (HT.out.in_ 0 rfl rfl).2
  have z_p : w.heap.size < W2.heap.size := (HT.out.in_ 1 rfl rfl).2
  clear G9
  go_wp2_with fail
  have G9 := worldFault_any _ _ _ Ap cp ps A c acs Bp d ts W2 Hr.out Hq.out Ht.out
  rw [HZ.out] at G9
  refine (G9).mono ?_
  rintro en W3 ⟨rfl, hb⟩
  clear r_w q_w r_p q_p z_w z_p
  obtain ⟨T', K'⟩ := HT.out.call hb
  replace HT := Lib.hid T'
  replace Hr := Lib.hid (Hr.out.move (by show 0 < 1; omega) K')
  replace Hq := Lib.hid (Hq.out.move (by decide) K')
  replace Ht := Lib.hid (Ht.out.move (by decide) K')
  clear T' K'
  replace hz : w.heap.size + 1 + 1 ≤ W3.heap.size := Nat.le_trans hz hb.size
  clear hb
  obtain ⟨r_w, q_w, r_p, q_p, -⟩ := HT.out.rules
  have z_w : w.heap.size + 1 < W3.heap.size := (HT.out.in_ 0 rfl rfl).2
  have z_p : w.heap.size < W3.heap.size := (HT.out.in_ 1 rfl rfl).2
  clear G9
  have e9 : (z == z) = true := by simp
  go_wp2_with fail
  go_ret
  exact ⟨rfl, HT.out.below⟩

theorem lifted (os : Os) (started : os.Started) (H : Type) (enc : TypeId × Value → H) :
    ReturnsInHanded {} Tryd.checked os 8 .any (fun w args => (Rows.actorChecksSpec.pre enc Tryd.prog Tryd.f8 [] false w args ∧ laidMetH Tryd.prog Rows.actorChecksRow.laid w) ∧ sizedMet enc Tryd.prog Tryd.f8 (OpenSpec.ofChange Rows.actorChecksSpec) false w args) (Rows.actorChecksSpec.post enc Tryd.prog Tryd.f8 false true false false) := by
  refine returnsInHanded_of_change_and (C := Tryd.checked) (X := fun w _ => laidMetH Tryd.prog Rows.actorChecksRow.laid w) (fun _ _ _ hh h => h.of_heap hh) own started (by kernel_rfl) Tryd.func8
    (ChangeSpec.witness_shaped (enc := enc) (C := Tryd.checked) (os := os) (X := fun w _ => laidMetH Tryd.prog Rows.actorChecksRow.laid w) false (World.doorLaid Tryd.prog 400 os) #[.agg #[.slice none 0 0], .agg #[.slice none 0 0, .slice none 0 0]] 8 rfl (World.shaped_of_RefB (by kernel_rfl) (by kernel_rfl)) (by kernel_rfl) (by kernel_rfl) (by kernel_rfl) (door_met os _)) ?_
  intro W base args ds gs before hval0 hW _ hsz0 hL _
  have hval : ∀ (j : Nat) t v, Tryd.f8.params[j]? = some t → args[j]? = some v → Value.okWide Tryd.prog W .any base t v := hval0
  have hsz : (DataW.weightsEach Tryd.prog (Tryd.f8.params.toList ++ Rows.actorChecksSpec.plain.varTypes Tryd.prog) (ds ++ gs)).all (· ≤ reachBytes) = true := hsz0
  have hW' := hW
  obtain ⟨p, q, hA0, hV, rfl, hfz, hnd⟩ := hW
  have hA : DataW.TrodAll enc Tryd.prog W 0 (fun _ => true) true Tryd.f8.params.toList args.toList ds p := hA0
  rw [Tryd.params8] at hA hval hsz
  obtain ⟨v0, vs0, d0, ds0, p0, q0, hargs, rfl, rfl, h0, r0⟩ := trodAll_cons hA
  obtain ⟨v1, vs1, d1, ds1, p1, q1, rfl, rfl, rfl, h1, r1⟩ := trodAll_cons r0
  obtain ⟨rfl, rfl, rfl⟩ := trodAll_nil r1
  obtain rfl : args = #[v0, v1] := by cases args; simp_all
  obtain ⟨rfl, rfl⟩ := trodVars_none hV
  obtain ⟨x0, A0, c0, rfl, y0⟩ := arg_pg h0 (hval 0 26 v0 rfl rfl) (sized_at hsz (j := 0) rfl rfl)
  obtain ⟨x1, A1, c1, B1, e1, rfl, y1, z1⟩ := arg_wd h1 (hval 1 32 v1 rfl rfl) (sized_at hsz (j := 1) rfl rfl)
  clear hA0 hval0 hsz0
  refine (walk W x0 A0 c0 y0 x1 A1 c1 B1 e1 y1 z1 (uses_of hL)).mono fun e W' ⟨he, hb⟩ => ?_
  subst he
  exact ⟨_, rfl, law_post (tb := 4) laidOut Tryd.underlying4 (by kernel_rfl) (by rw [Tryd.params8]; exact all_types (by kernel_rfl)) rfl hW' rfl hb⟩

theorem closed : joinedFacts Tryd.prog 8 Tryd.f8 Rows.actorChecksSpec Rows.actorChecksRow = true :=
  facts_of (by kernel_rfl) laidOut fact_rowed (by kernel_rfl) (by kernel_rfl) (by kernel_rfl) fact_stops (by kernel_rfl) fact_knobs (by kernel_rfl) (by kernel_rfl) (by kernel_rfl) (by kernel_rfl) (by kernel_rfl) (by kernel_rfl) (by kernel_rfl) (by kernel_rfl) (by kernel_rfl) (by kernel_rfl) (by kernel_rfl) (by kernel_rfl) (by kernel_rfl) (by kernel_rfl) (by kernel_rfl) fact_heard fact_may (by rw [fact_lifts]; rfl) fact_make ⟨rfl, rfl⟩ (by kernel_rfl) (by kernel_rfl) (by kernel_rfl)
theorem over : Rows.actorChecksRow.holds Tryd.pinned (OpenSpec.ofChange Rows.actorChecksSpec) :=
  OpenClaim.holds_of_wide 8 Tryd.f8 rfl rfl rfl rfl rfl rfl rfl ⟨rfl, rfl, rfl, rfl, rfl⟩ rfl rfl rfl rfl rfl (by kernel_rfl) Tryd.func8 closed
    (of_decide_eq_true (by kernel_rfl)) (by unfold Func.isWrapper; first | (rw [if_pos (by decide +kernel)]; kernel_rfl) | (rw [if_neg (by decide +kernel)]; exact ⟨rfl, rfl⟩))
    (fun os started H enc _ => lifted os started H enc)
/-- THE STATEMENT: the tied card. -/
theorem proved : Rows.ActorChecksCardSaid := by
  unfold Rows.ActorChecksCardSaid Rows.actorChecksCard
  exact Claim7.holds_tied_plain_at .later [] [.data] true _ _ over (fun _ h => by cases h) (by kernel_rfl) (fun _ h => by cases h) actorChecks_row_tie rfl ⟨rfl, rfl⟩ (by kernel_rfl) rfl
    (fun f fn hf hfn => by
      obtain rfl : f = 8 := Option.some.inj ((show Tryd.prog.funcNamed "treadwheel/treadwheellaw.ActorChecks" = some 8 by kernel_rfl).symm.trans hf) |>.symm
      obtain rfl : fn = Tryd.f8 := (Option.some.inj (Tryd.func8.symm.trans hfn)).symm
      exact ⟨by kernel_rfl, fun j t ht => by
        rw [Tryd.params8] at ht
        have hm : t ∈ ([26, 32] : List TypeId) := by simpa using Array.mem_of_getElem? ht
        have hall : (([26, 32] : List TypeId).all fun u => !Tryd.prog.wantsStandIn u) = true := by kernel_rfl
        exact (show Tryd.prog.wantsStandIn t = false by simpa using List.all_eq_true.1 hall t hm)⟩)
    (by kernel_rfl)
#print axioms proved
end Go.Proofs.YtabcjdalifhpdaaDoor.lawActorChecks
