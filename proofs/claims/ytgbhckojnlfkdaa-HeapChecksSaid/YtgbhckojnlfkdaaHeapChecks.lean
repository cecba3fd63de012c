/- THE STATEMENT 'HeapChecks': for every input the call returns true, and each argument reads behind it as it did: proved out of the walks. No condition beside the row's own. -/
import Derived.Test.YtgbhckojnlfkdaaHeapMay
import Derived.Test.YtgbhckojnlfkdaaArgs
import Derived.Test.YtgbhckojnlfkdaaFacts
set_option maxRecDepth 100000
namespace Go.Proofs.Ytgbhckojnlfkdaa.lawHeapChecks
open Go.ChangeShapes Go.WideShapes Go.ChangeAt Go.RowKit
set_option linter.unusedVariables false

theorem check_is (m : Int) (S T : Nat → Prop) (A R : Option Addr) (c d : Nat) (os : List Ob) (rs : List V) (w : World) (n : Int) (hn : checkN ⟨m, os⟩ rs = n) (ho : RdSl obE w S (.slice A os.length c) os) (hq : RdSl vE w T (.slice R rs.length d) rs) :
    Calls Try.prog 33 #[.agg #[.int .i64 m, .slice A os.length c], .slice R rs.length d] w fun e w' => e = .returned (.int .i64 n) ∧ Below w.heap.size w w' := hn ▸ check_any m S T A R c d os rs w ho hq
theorem may_is (m : Int) (S T : Nat → Prop) (A R : Option Addr) (c d : Nat) (os : List Ob) (rs : List V) (w : World) (n : Bool) (hn : hpB ⟨m, os⟩ rs = n) (ho : RdSl obE w S (.slice A os.length c) os) (hq : RdSl vE w T (.slice R rs.length d) rs) :
    Calls Try.prog 34 #[.agg #[.int .i64 m, .slice A os.length c], .slice R rs.length d] w fun e w' => e = .returned (.bool n) ∧ Below w.heap.size w w' := hn ▸ heapMay_any m S T A R c d os rs w ho hq
set_option maxHeartbeats 400000 in
theorem walk (w : World) (m : Int) (os : List Ob) (A : Option Addr) (c : Nat) (ho : RdSl obE w (fun _ => True) (.slice A os.length c) os) (rs : List V) (R : Option Addr) (d : Nat) (hq : RdSl vE w (fun _ => True) (.slice R rs.length d) rs) :
    Calls Try.prog 10 #[.agg #[.int .i64 m, .slice A os.length c], .slice R rs.length d] w fun e w' => e = .returned (.bool true) ∧ Below w.heap.size w w' := by
  have Ho := Lib.hid ho
  have Hq := Lib.hid hq
  clear ho hq
  cases hp : hpB ⟨m, os⟩ rs
  all_goals
    have hc : checkN ⟨m, os⟩ rs = if hpB ⟨m, os⟩ rs = true then 0 else 8 := rfl
    simp only [hp, if_true, Bool.false_eq_true, if_false] at hc
    have Hp := Lib.hid hp
    have Hc := Lib.hid hc
    clear hp hc
    have hB : Below w.heap.size w (w.alloc (.cells #[.int .i64 m, .slice A os.length c] 28)) := (Below.refl _ _).alloc (Nat.le_refl _) _
    go_enter Try.func10, Try.ntmps10
    go_wp2_with fail
    refine (check_is m _ _ A R c d os rs _ _ Hc.out (Ho.out.below (by decide) hB) (Hq.out.below (by decide) hB)).mono ?_
    rintro e w1 ⟨rfl, hb1⟩
    have q0 : w1.cell? ⟨w.heap.size, 0, none⟩ = some (.int .i64 m) := cell_new hb1 0
    have q1 : w1.cell? ⟨w.heap.size, 1, none⟩ = some (.slice A os.length c) := cell_new hb1 1
    go_wp2_with fail
    refine (may_is m _ _ A R c d os rs _ _ Hp.out ((Ho.out.below (by decide) hB).below (by decide) hb1) ((Hq.out.below (by decide) hB).below (by decide) hb1)).mono ?_
    rintro e w2 ⟨rfl, hb2⟩
    go_wp2
    go_ret
    exact ⟨rfl, (hB.trans (hb1.mono hB.size)).trans (hb2.mono (by have := hB.size; have := hb1.size; omega))⟩

theorem lifted (os : Os) (started : os.Started) (H : Type) (enc : TypeId × Value → H) :
    ReturnsInHanded {} Try.checked os 10 .any (Rows.heapChecksSpec.pre6 enc Try.prog Try.f10 Rows.heapChecksRow.domain false) (Rows.heapChecksSpec.post enc Try.prog Try.f10 false true false false) := by
  refine returnsInHanded_of_change_sized (C := Try.checked) own started (by kernel_rfl) Try.func10
    (ChangeSpec.witness6 (enc := enc) (C := Try.checked) false ⟨#[], #[.agg #[.int .i64 0, .slice none 0 0], .slice none 0 0], []⟩ 8 (by kernel_rfl) (by kernel_rfl) (by kernel_rfl) (by kernel_rfl)) ?_
  intro W base args ds gs before hval0 hW _ hsz0 _
  have hval : ∀ (j : Nat) t v, Try.f10.params[j]? = some t → args[j]? = some v → Value.okWide Try.prog W .any base t v := hval0
  have hsz : (DataW.weightsEach Try.prog (Try.f10.params.toList ++ Rows.heapChecksSpec.plain.varTypes Try.prog) (ds ++ gs)).all (· ≤ reachBytes) = true := hsz0
  have hW' := hW
  obtain ⟨p, q, hA0, hV, rfl, hfz, hnd⟩ := hW
  have hA : DataW.TrodAll enc Try.prog W 0 (fun _ => true) true Try.f10.params.toList args.toList ds p := hA0
  rw [Try.params10] at hA hval hsz
  obtain ⟨v0, vs0, d0, ds0, p0, q0, hargs, rfl, rfl, h0, r0⟩ := trodAll_cons hA
  obtain ⟨v1, vs1, d1, ds1, p1, q1, rfl, rfl, rfl, h1, r1⟩ := trodAll_cons r0
  obtain ⟨rfl, rfl, rfl⟩ := trodAll_nil r1
  obtain rfl : args = #[v0, v1] := by cases args; simp_all
  obtain ⟨rfl, rfl⟩ := trodVars_none hV
  obtain ⟨m0, x0, A0, c0, rfl, y0⟩ := arg_hp h0 (hval 0 28 v0 rfl rfl) (sized_at hsz (j := 0) rfl rfl)
  obtain ⟨x1, A1, c1, rfl, y1⟩ := arg_vs h1 (hval 1 51 v1 rfl rfl) (sized_at hsz (j := 1) rfl rfl)
  clear hA0 hval0 hsz0
  refine (walk W m0 x0 A0 c0 y0 x1 A1 c1 y1).mono fun e W' ⟨he, hb⟩ => ?_
  subst he
  exact ⟨_, rfl, law_post (tb := 4) laidOut Try.underlying4 (by kernel_rfl) (by rw [Try.params10]; exact all_types (by kernel_rfl)) rfl hW' rfl hb⟩

theorem closed : joinedFacts Try.prog 10 Try.f10 Rows.heapChecksSpec Rows.heapChecksRow = true :=
  facts_of (by kernel_rfl) laidOut fact_rowed (by kernel_rfl) (by kernel_rfl) (by kernel_rfl) fact_stops (by kernel_rfl) fact_knobs (by kernel_rfl) (by kernel_rfl) (by kernel_rfl) (by kernel_rfl) (by kernel_rfl) (by kernel_rfl) (by kernel_rfl) (by kernel_rfl) (by kernel_rfl) (by kernel_rfl) (by kernel_rfl) (by kernel_rfl) (by kernel_rfl) (by kernel_rfl) (by kernel_rfl) fact_heard fact_may (by rw [fact_lifts]; rfl) fact_make ⟨rfl, rfl⟩ (by kernel_rfl) (by kernel_rfl) (by kernel_rfl)
theorem over : Rows.heapChecksRow.holds Try.pinned (OpenSpec.ofChange Rows.heapChecksSpec) :=
  OpenClaim.holds_of_wide 10 Try.f10 rfl rfl rfl rfl rfl rfl rfl ⟨rfl, rfl, rfl, rfl, rfl⟩ rfl rfl rfl rfl rfl (by kernel_rfl) Try.func10 closed
    (of_decide_eq_true (by kernel_rfl)) (by unfold Func.isWrapper; first | (rw [if_pos (by decide +kernel)]; kernel_rfl) | (rw [if_neg (by decide +kernel)]; exact ⟨rfl, rfl⟩))
    (fun os started H enc _ => lifted os started H enc)
/-- THE STATEMENT. -/
theorem proved : Rows.HeapChecksSaid := over
#print axioms proved
end Go.Proofs.Ytgbhckojnlfkdaa.lawHeapChecks
