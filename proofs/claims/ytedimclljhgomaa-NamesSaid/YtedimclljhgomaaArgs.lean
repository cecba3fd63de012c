/- How the arguments of the laws are opened, at this translation's own types: values, objects, heaps, instructions, programs, actors, worlds, acts. No condition beside the form's own. -/
import Derived.Test.YtedimclljhgomaaOpen
set_option maxRecDepth 100000
namespace Go.Proofs.Ytedimclljhgomaa
open Go.ChangeShapes Go.WideShapes Go.ChangeAt Go.RowKit Go.Deep

theorem own : ownKnob Try.prog.godebug = none := by kernel_rfl
theorem laidOut : laidOutB Try.prog = true := by kernel_rfl

theorem opens_i : Opens iE Try.prog 3 := by
  intro H enc w base spare held n cs d pl h _
  obtain ⟨k, rfl, _, _⟩ := DataW.trod_int Try.underlying3 h
  exact ⟨k, rfl, rfl⟩
theorem opens_v : Opens vE Try.prog 43 := by
  intro H enc w base spare held n cs d pl h _
  obtain ⟨ds, m, rfl, hl, hdl, hf⟩ := trod_fields Try.underlying43 (by kernel_rfl) (by kernel_rfl) h
  obtain ⟨v0, e0, p0, c0, _, h0⟩ := hf 0 _ rfl
  obtain ⟨v1, e1, p1, c1, _, h1⟩ := hf 1 _ rfl
  obtain ⟨k0, g0, _, _⟩ := DataW.trod_int Try.underlying3 h0
  obtain ⟨k1, g1, _, _⟩ := DataW.trod_int Try.underlying3 h1
  match cs, hl with
  | [a, b], _ =>
    simp at c0 c1 g0 g1
    subst c0 c1 g0 g1
    exact ⟨⟨k0, k1⟩, rfl, rfl⟩
theorem opens_vs : Opens (slE vE (by decide)) Try.prog 36 := opens_sl opens_v Try.underlying36 (by kernel_rfl) (by kernel_rfl) _
theorem opens_ob : Opens obE Try.prog 60 := by
  intro H enc w base spare held n cs d pl h hw
  obtain ⟨ds, m, rfl, hl, hdl, hf⟩ := trod_fields Try.underlying60 (by kernel_rfl) (by kernel_rfl) h
  obtain ⟨v0, e0, p0, c0, d0, h0⟩ := hf 0 _ rfl
  obtain ⟨v1, e1, p1, c1, d1, h1⟩ := hf 1 _ rfl
  simp only [DataW.weights, Try.underlying60] at hw
  obtain ⟨xs, _, u, hu, hr⟩ := opens_vs enc w base spare held m _ _ _ h0 (fun x hx => hw x (weightsEach_mem (i := 0) rfl d0 hx))
  obtain ⟨k1, g1, _⟩ := DataW.trod_bool Try.underlying4 h1
  match cs, hl with
  | [a, b], _ =>
    simp at c0 c1 g1 hu
    subst c0 c1 g1 hu
    exact ⟨⟨xs, k1⟩, rfl, _, rfl, hr⟩
theorem opens_obs : Opens (slE obE (by decide)) Try.prog 33 := opens_sl opens_ob Try.underlying33 (by kernel_rfl) (by kernel_rfl) _

theorem sized_at {H : Type} {P : Program} {ts : List TypeId} {ds : List (DataW H)} {j : Nat} {t : TypeId} {d : DataW H} (h : (DataW.weightsEach P ts ds).all (· ≤ reachBytes) = true) (ht : ts[j]? = some t) (hd : ds[j]? = some d) :
    ∀ x ∈ d.weights P t, x ≤ reachBytes := fun x hx => by
  have := List.all_eq_true.1 h x (weightsEach_mem ht hd hx)
  simpa using this
theorem all_types {P : Program} {ts : List TypeId} (h : (ts.all fun t => P.readableRec t && decide (t < P.types.size)) = true) : ∀ t ∈ ts, P.readableRec t = true ∧ t < P.types.size := fun t ht => by
  have := List.all_eq_true.1 h t ht
  simpa using this
theorem wf_i64_range {a : Int} (h : (Lit.int .i64 a).wf = true) : -9223372036854775808 ≤ a ∧ a ≤ 9223372036854775807 := by
  simp [Lit.wf, IntKind.min, IntKind.max, IntKind.signed, IntKind.bits] at h
  exact ⟨by omega, by omega⟩

section
variable {H : Type} {enc : TypeId × Value → H} {W : World} {base b0 : Nat} {spare : Nat → Bool} {held : Bool} {v : Value} {d : DataW H} {p : List MemPlace}

theorem arg_sl {α : Type} {E : El α} {hs : 0 < E.size} {t e : TypeId} (ho : Opens (slE E hs) Try.prog t) (ht : Try.prog.underlying t = some (.slice e)) (h : DataW.Trod enc Try.prog W base spare held t v d p)
    (hv : Value.okWide Try.prog W .any b0 t v) (hw : ∀ x ∈ d.weights Try.prog t, x ≤ reachBytes) : ∃ xs A c, v = .slice A xs.length c ∧ RdSl E W (fun _ => True) (.slice A xs.length c) xs := by
  obtain ⟨n, hn⟩ := h
  obtain ⟨a, len, cap, rfl⟩ := okWide_slice ht hv
  obtain ⟨xs, _, u, hu, hr⟩ := ho enc W base spare held n _ _ _ hn hw
  simp [Value.cells] at hu
  subst hu
  obtain ⟨A, c, he, _⟩ := hr.form
  cases he
  exact ⟨xs, a, cap, rfl, hr⟩
theorem arg_vs (h : DataW.Trod enc Try.prog W base spare held 36 v d p) (hv : Value.okWide Try.prog W .any b0 36 v) (hw : ∀ x ∈ d.weights Try.prog 36, x ≤ reachBytes) :
    ∃ xs A c, v = .slice A xs.length c ∧ RdSl vE W (fun _ => True) (.slice A xs.length c) xs := arg_sl opens_vs Try.underlying36 h hv hw
theorem arg_v (h : DataW.Trod enc Try.prog W base spare held 43 v d p) (hv : Value.okWide Try.prog W .any b0 43 v) (hw : ∀ x ∈ d.weights Try.prog 43, x ≤ reachBytes) :
    ∃ x : V, v = .agg #[.int .i64 x.k, .int .i64 x.n] := by
  obtain ⟨n, hn⟩ := h
  obtain ⟨⟨l⟩, rfl, _⟩ := okWide_struct Try.underlying43 hv
  obtain ⟨x, _, hx⟩ := opens_v enc W base spare held n _ _ _ hn hw
  exact ⟨x, congrArg (fun l : List Value => Value.agg l.toArray) hx⟩
theorem arg_hp (h : DataW.Trod enc Try.prog W base spare held 35 v d p) (hv : Value.okWide Try.prog W .any b0 35 v) (hw : ∀ x ∈ d.weights Try.prog 35, x ≤ reachBytes) :
    ∃ m os A c, v = .agg #[.int .i64 m, .slice A os.length c] ∧ RdSl obE W (fun _ => True) (.slice A os.length c) os := by
  obtain ⟨n, hn⟩ := h
  obtain ⟨⟨l⟩, rfl, _⟩ := okWide_struct Try.underlying35 hv
  obtain ⟨ds, m, rfl, hl, hdl, hf⟩ := trod_fields Try.underlying35 (by kernel_rfl) (by kernel_rfl) hn
  obtain ⟨v0, e0, p0, c0, d0, h0⟩ := hf 0 _ rfl
  obtain ⟨v1, e1, p1, c1, d1, h1⟩ := hf 1 _ rfl
  simp only [DataW.weights, Try.underlying35] at hw
  obtain ⟨k0, g0, _, _⟩ := DataW.trod_int Try.underlying3 h0
  obtain ⟨xs, _, u, hu, hr⟩ := opens_obs enc W base spare held m _ _ _ h1 (fun x hx => hw x (weightsEach_mem (i := 1) rfl d1 hx))
  obtain ⟨A, c, rfl, _⟩ := hr.form
  simp only [Value.cells] at hl c0 c1
  match l, hl with
  | [a, b], _ =>
    simp at c0 c1 g0 hu
    subst c0 c1 g0 hu
    exact ⟨k0, xs, A, c, rfl, hr⟩
end
end Go.Proofs.Ytedimclljhgomaa
