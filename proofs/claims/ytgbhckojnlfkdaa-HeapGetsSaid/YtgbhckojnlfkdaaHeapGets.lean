/- THE STATEMENT 'HeapGets': for every input the call returns true, and each argument reads behind it as it did: proved out of the walks. No condition beside the row's own. -/
import Derived.Test.YtgbhckojnlfkdaaGotOf
import Derived.Test.YtgbhckojnlfkdaaArgs
import Derived.Test.YtgbhckojnlfkdaaFacts
set_option maxRecDepth 100000
namespace Go.Proofs.Ytgbhckojnlfkdaa.lawHeapGets
open Go.ChangeShapes Go.WideShapes Go.ChangeAt Go.RowKit
set_option linter.unusedVariables false

set_option maxHeartbeats 1000000 in
theorem walk (w : World) (m : Int) (os : List Ob) (A : Option Addr) (c : Nat) (hp : RdSl obE w (fun _ => True) (.slice A os.length c) os) (v : V) (f : Int) (_hf : -9223372036854775808 ≤ f ∧ f ≤ 9223372036854775807) :
    Calls Try.prog 11 #[.agg #[.int .i64 m, .slice A os.length c], .agg #[.int .i64 v.k, .int .i64 v.n], .int .i64 f] w fun e w' => e = .returned (.bool true) ∧ Below w.heap.size w w' := by
  have Hp := Lib.hid hp
  clear hp _hf
  have hB : Below w.heap.size w ((w.alloc (.cells #[.int .i64 m, .slice A os.length c] 28)).alloc (.cells #[.int .i64 v.k, .int .i64 v.n] 55)) := ((Below.refl _ _).alloc (Nat.le_refl _) _).alloc (by simp) _
  have G1 := Lib.hid (fun W S (h : RdSl obE W S (.slice A os.length c) os) => get_any m S A c os v f W h)
  have G2 := Lib.hid (fun W S (h : RdSl obE W S (.slice A os.length c) os) => gotOf_any m S A c os v f W h)
  generalize gotV m os v f = x at *
  generalize gotE m os v f = r at *
  have b1 : (x.k == x.k) = true := by simp
  have b2 : (x.n == x.n) = true := by simp
  have b3 : (r == r) = true := by simp
  go_enter Try.func11, Try.ntmps11
  go_wp2_with fail
  refine (G1.out _ _ (Hp.out.below (by decide) hB)).mono ?_
  rintro e w1 ⟨rfl, hb1⟩
  have q0 : w1.cell? ⟨w.heap.size, 0, none⟩ = some (.int .i64 m) := (hb1.cell (p := ⟨w.heap.size, 0, none⟩) (by simp; omega)).trans (by simp [go_sem])
  have q1 : w1.cell? ⟨w.heap.size, 1, none⟩ = some (.slice A os.length c) := (hb1.cell (p := ⟨w.heap.size, 1, none⟩) (by simp; omega)).trans (by simp [go_sem])
  have q2 : w1.cell? ⟨w.heap.size + 1, 0, none⟩ = some (.int .i64 v.k) := (hb1.cell (p := ⟨w.heap.size + 1, 0, none⟩) (by simp)).trans (by simp [go_sem])
  have q3 : w1.cell? ⟨w.heap.size + 1, 1, none⟩ = some (.int .i64 v.n) := (hb1.cell (p := ⟨w.heap.size + 1, 1, none⟩) (by simp)).trans (by simp [go_sem])
  have hz1 : w.heap.size + 1 + 1 ≤ w1.heap.size := by have := hb1.size; simpa using this
  have hz1' : w.heap.size + 1 < w1.heap.size := by omega
  have hz1'' : w.heap.size < w1.heap.size := by omega
  have hbb : Below w.heap.size w w1 := hB.trans (hb1.mono hB.size)
  go_wp2_with fail
  refine (G2.out _ _ (((Hp.out.below (by decide) hB).below (by decide) hb1).below (by decide) ((Below.refl _ _).alloc (Nat.le_refl _) _))).mono ?_
  rintro e w2 ⟨rfl, hb2⟩
  have k0 : w2.cell? ⟨w1.heap.size, 0, none⟩ = some (.int .i64 x.k) := cell_new hb2 0
  have k1 : w2.cell? ⟨w1.heap.size, 1, none⟩ = some (.int .i64 x.n) := cell_new hb2 1
  have hz2 : w1.heap.size < w2.heap.size := by have := hb2.size; simp at this; omega
  go_wp2
  go_ret
  exact ⟨rfl, (((hbb.alloc (by omega) _).trans (hb2.mono (by simp; omega))).alloc (by omega) _)⟩

theorem lifted (os : Os) (started : os.Started) (H : Type) (enc : TypeId × Value → H) :
    ReturnsInHanded {} Try.checked os 11 .any (Rows.heapGetsSpec.pre6 enc Try.prog Try.f11 Rows.heapGetsRow.domain false) (Rows.heapGetsSpec.post enc Try.prog Try.f11 false true false false) := by
  refine returnsInHanded_of_change_sized (C := Try.checked) own started (by kernel_rfl) Try.func11
    (ChangeSpec.witness6 (enc := enc) (C := Try.checked) false ⟨#[], #[.agg #[.int .i64 0, .slice none 0 0], .agg #[.int .i64 0, .int .i64 0], .int .i64 0], []⟩ 8 (by kernel_rfl) (by kernel_rfl) (by kernel_rfl) (by kernel_rfl)) ?_
  intro W base args ds gs before hval0 hW _ hsz0 _
  have hval : ∀ (j : Nat) t v, Try.f11.params[j]? = some t → args[j]? = some v → Value.okWide Try.prog W .any base t v := hval0
  have hsz : (DataW.weightsEach Try.prog (Try.f11.params.toList ++ Rows.heapGetsSpec.plain.varTypes Try.prog) (ds ++ gs)).all (· ≤ reachBytes) = true := hsz0
  have hW' := hW
  obtain ⟨p, q, hA0, hV, rfl, hfz, hnd⟩ := hW
  have hA : DataW.TrodAll enc Try.prog W 0 (fun _ => true) true Try.f11.params.toList args.toList ds p := hA0
  rw [Try.params11] at hA hval hsz
  obtain ⟨v0, vs0, d0, ds0, p0, q0, hargs, rfl, rfl, h0, r0⟩ := trodAll_cons hA
  obtain ⟨v1, vs1, d1, ds1, p1, q1, rfl, rfl, rfl, h1, r1⟩ := trodAll_cons r0
  obtain ⟨v2, vs2, d2, ds2, p2, q2, rfl, rfl, rfl, h2, r2⟩ := trodAll_cons r1
  obtain ⟨rfl, rfl, rfl⟩ := trodAll_nil r2
  obtain rfl : args = #[v0, v1, v2] := by cases args; simp_all
  obtain ⟨rfl, rfl⟩ := trodVars_none hV
  obtain ⟨m0, x0, A0, c0, rfl, y0⟩ := arg_hp h0 (hval 0 28 v0 rfl rfl) (sized_at hsz (j := 0) rfl rfl)
  obtain ⟨x1, rfl⟩ := arg_v h1 (hval 1 55 v1 rfl rfl) (sized_at hsz (j := 1) rfl rfl)
  obtain ⟨a2, rfl, -, -, w2⟩ := open_int Try.underlying3 (hval 2 3 v2 rfl rfl) h2
  clear hA0 hval0 hsz0
  refine (walk W m0 x0 A0 c0 y0 x1 a2 (wf_i64_range w2)).mono fun e W' ⟨he, hb⟩ => ?_
  subst he
  exact ⟨_, rfl, law_post (tb := 4) laidOut Try.underlying4 (by kernel_rfl) (by rw [Try.params11]; exact all_types (by kernel_rfl)) rfl hW' rfl hb⟩

theorem closed : joinedFacts Try.prog 11 Try.f11 Rows.heapGetsSpec Rows.heapGetsRow = true :=
  facts_of (by kernel_rfl) laidOut fact_rowed (by kernel_rfl) (by kernel_rfl) (by kernel_rfl) fact_stops (by kernel_rfl) fact_knobs (by kernel_rfl) (by kernel_rfl) (by kernel_rfl) (by kernel_rfl) (by kernel_rfl) (by kernel_rfl) (by kernel_rfl) (by kernel_rfl) (by kernel_rfl) (by kernel_rfl) (by kernel_rfl) (by kernel_rfl) (by kernel_rfl) (by kernel_rfl) (by kernel_rfl) fact_heard fact_may (by rw [fact_lifts]; rfl) fact_make ⟨rfl, rfl⟩ (by kernel_rfl) (by kernel_rfl) (by kernel_rfl)
theorem over : Rows.heapGetsRow.holds Try.pinned (OpenSpec.ofChange Rows.heapGetsSpec) :=
  OpenClaim.holds_of_wide 11 Try.f11 rfl rfl rfl rfl rfl rfl rfl ⟨rfl, rfl, rfl, rfl, rfl⟩ rfl rfl rfl rfl rfl (by kernel_rfl) Try.func11 closed
    (of_decide_eq_true (by kernel_rfl)) (by unfold Func.isWrapper; first | (rw [if_pos (by decide +kernel)]; kernel_rfl) | (rw [if_neg (by decide +kernel)]; exact ⟨rfl, rfl⟩))
    (fun os started H enc _ => lifted os started H enc)
/-- THE STATEMENT. -/
theorem proved : Rows.HeapGetsSaid := over
#print axioms proved
end Go.Proofs.Ytgbhckojnlfkdaa.lawHeapGets
