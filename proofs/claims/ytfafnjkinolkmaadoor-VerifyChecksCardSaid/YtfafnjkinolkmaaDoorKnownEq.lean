/- Two arrays of eight numbers, held against each other. No condition. -/
import Derived.Test.YtfafnjkinolkmaaDoorFlowM
namespace Go.Proofs.YtfafnjkinolkmaaDoor
open Go.RowKit
/-- The elements of two arrays of numbers are held against each other, from a list of places on. -/
theorem eqPlaces (d : Nat) (w : World) (xs ys : List Int) (hl : xs.length = ys.length) : ∀ is : List Nat, (∀ i ∈ is, i < xs.length) →
    (forIn (m := Sem) is ((none : Option Bool), ()) fun i __s => do
      let a ← part 3 (xs.map (Value.int .i64)).toArray (i * 1)
      let b ← part 3 (ys.map (Value.int .i64)).toArray (i * 1)
      let r ← Op.equalIn (d + 1) 3 a b
      if (!r) = true then pure (ForInStep.done (some false, ())) else pure (ForInStep.yield (none, ()))).run Tryd.prog w = .ok (if ∀ i ∈ is, xs[i]? = ys[i]? then none else some false, ()) w := by
  have hp : ∀ (zs : List Int) (i : Nat) (z : Int), zs[i]? = some z → (part 3 (zs.map (Value.int .i64)).toArray (i * 1)).run Tryd.prog w = .ok (.int .i64 z) w := fun zs i z hz => by
    simp [part, go_sem, Tryd.isAgg3, hz]
  intro is
  induction is with
  | nil => intro _; simp
  | cons i is ih =>
    intro hi
    obtain ⟨a, h1⟩ : ∃ a, xs[i]? = some a := ⟨_, List.getElem?_eq_getElem (hi i (by simp))⟩
    obtain ⟨b, h2⟩ : ∃ b, ys[i]? = some b := ⟨_, List.getElem?_eq_getElem (by have := hi i (by simp); omega)⟩
    simp only [List.forIn_cons, Sem.run_bind, hp _ _ _ h1, hp _ _ _ h2, Result.andThen_ok, run_equalIn_int w d 3 .i64 .i64 a b Tryd.underlying3]
    by_cases he : a = b
    · have hb : (a == b) = true := by simpa using he
      rw [hb]
      simp only [Bool.not_true, Bool.false_eq_true, if_false, Sem.run_pure, Result.andThen_ok]
      rw [ih (fun j hj => hi j (by simp [hj]))]
      simp [h1, h2, he]
    · have hb : (a == b) = false := by simpa using he
      rw [hb]
      simp only [Bool.not_false, if_true, Sem.run_pure, Result.andThen_ok]
      rw [if_neg (fun h => he (by have := h i (by simp); rw [h1, h2] at this; exact Option.some.inj this))]
theorem knownEq (w : World) (z0 z1 z2 z3 z4 z5 z6 z7 p0 p1 p2 p3 p4 p5 p6 p7 : Int) :
    (Op.equalIn 10000 90 (.agg #[.int .i64 z0, .int .i64 z1, .int .i64 z2, .int .i64 z3, .int .i64 z4, .int .i64 z5, .int .i64 z6, .int .i64 z7]) (.agg #[.int .i64 p0, .int .i64 p1, .int .i64 p2, .int .i64 p3, .int .i64 p4, .int .i64 p5, .int .i64 p6, .int .i64 p7])).run Tryd.prog w = .ok (decide ([z0, z1, z2, z3, z4, z5, z6, z7] = [p0, p1, p2, p3, p4, p5, p6, p7])) w := by
  have hs : (sizeOf 3).run Tryd.prog w = .ok 1 w := Tryd.sizeOf3 w
  rw [show (10000 : Nat) = 9999 + 1 from rfl, Op.equalIn]
  simp only [Sem.run_bind, run_underlying Tryd.underlying90, Result.andThen_ok, hs]
  rw [Std.Legacy.Range.forIn_eq_forIn_range']
  have h := eqPlaces 9998 w [z0, z1, z2, z3, z4, z5, z6, z7] [p0, p1, p2, p3, p4, p5, p6, p7] rfl (List.range' 0 8) (fun i hi => by simp at hi; exact hi)
  have hr : List.range' ([:8] : Std.Legacy.Range).start ([:8] : Std.Legacy.Range).size ([:8] : Std.Legacy.Range).step = List.range' 0 8 := by decide
  rw [hr]
  simp only [List.map_cons, List.map_nil, Nat.reduceAdd] at h
  rw [h]
  simp only [Result.andThen_ok]
  by_cases he : [z0, z1, z2, z3, z4, z5, z6, z7] = [p0, p1, p2, p3, p4, p5, p6, p7]
  · rw [if_pos (fun i _ => by rw [he]), decide_eq_true he]; rfl
  · rw [if_neg (fun h => he (List.ext_getElem? fun i => by
      by_cases hi : i < 8
      · exact h i (by simp; exact hi)
      · rw [List.getElem?_eq_none (by simp; omega), List.getElem?_eq_none (by simp; omega)])), decide_eq_false he]; rfl
theorem knownGuard : Tryd.prog.eqGuardType Tryd.prog.depth 90 = false := by kernel_rfl
end Go.Proofs.YtfafnjkinolkmaaDoor
