/- How the arguments of the laws are opened, at this translation's own types: values, objects, heaps, instructions, programs, actors, worlds, acts. No condition beside the form's own. -/
import Derived.Test.YtabcjdalifhpdaaOpen
set_option maxRecDepth 100000
namespace Go.Proofs.Ytabcjdalifhpdaa
open Go.ChangeShapes Go.WideShapes Go.ChangeAt Go.RowKit Go.Deep
theorem own : ownKnob Try.prog.godebug = none := by kernel_rfl
theorem laidOut : laidOutB Try.prog = true := by kernel_rfl
theorem opens_i : Opens iE Try.prog 3 := by
 intro H enc w base spare held n cs d pl h _;obtain ⟨k, rfl, _, _⟩ := DataW.trod_int Try.underlying3 h;exact ⟨k, rfl, rfl⟩
theorem opens_v : Opens vE Try.prog 30 := by
 intro H enc w base spare held n cs d pl h _;obtain ⟨ds, m, rfl, hl, hdl, hf⟩ := trod_fields Try.underlying30 (by kernel_rfl) (by kernel_rfl) h;obtain ⟨v0, e0, p0, c0, _, h0⟩ := hf 0 _ rfl;obtain ⟨v1, e1, p1, c1, _, h1⟩ := hf 1 _ rfl;obtain ⟨k0, g0, _, _⟩ := DataW.trod_int Try.underlying3 h0;obtain ⟨k1, g1, _, _⟩ := DataW.trod_int Try.underlying3 h1;match cs, hl with
 | [a, b], _ =>
  simp at c0 c1 g0 g1
  subst c0 c1 g0 g1;exact ⟨⟨k0, k1⟩, rfl, rfl⟩
theorem opens_vs : Opens (slE vE (by decide)) Try.prog 26 := opens_sl opens_v Try.underlying26 (by kernel_rfl) (by kernel_rfl) _
theorem opens_ob : Opens obE Try.prog 41 := by
 intro H enc w base spare held n cs d pl h hw;obtain ⟨ds, m, rfl, hl, hdl, hf⟩ := trod_fields Try.underlying41 (by kernel_rfl) (by kernel_rfl) h;obtain ⟨v0, e0, p0, c0, d0, h0⟩ := hf 0 _ rfl;obtain ⟨v1, e1, p1, c1, d1, h1⟩ := hf 1 _ rfl;simp only [DataW.weights, Try.underlying41] at hw;obtain ⟨xs, _, u, hu, hr⟩ := opens_vs enc w base spare held m _ _ _ h0 (fun x hx => hw x (weightsEach_mem (i := 0) rfl d0 hx));obtain ⟨k1, g1, _⟩ := DataW.trod_bool Try.underlying4 h1;match cs, hl with
 | [a, b], _ =>
  simp at c0 c1 g1 hu
  subst c0 c1 g1 hu;exact ⟨⟨xs, k1⟩, rfl, _, rfl, hr⟩
theorem opens_obs : Opens (slE obE (by decide)) Try.prog 23 := opens_sl opens_ob Try.underlying23 (by kernel_rfl) (by kernel_rfl) _
theorem trod_fieldsN {H : Type} {enc : TypeId × Value → H} {P : Program} {w : World} {base : Nat} {spare : Nat → Bool} {held : Bool} {n : Nat} {t : TypeId} {fs : Array Field} {cs : List Value} {d : DataW H} {pl : List MemPlace} {size : Nat}
  (ht : P.underlying t = some (.struct fs)) (hC : P.cellsOf t = size) (h : DataW.trod enc P w base spare held n t cs = some (d, pl)) :
  ∃ (ds : List (DataW H)) (m : Nat), d = .agg ds ∧ cs.length = size ∧
   ∀ (i : Nat) (f : Field) (t : TypeId) (o k : Nat), fs[i]? = some f → f.type = t → f.offset = o → P.cellsOf t = k → ∃ e pl', ds[i]? = some e ∧ DataW.trod enc P w base spare held m t ((cs.drop o).take k) = some (e, pl') := by
 obtain ⟨xs, m, _, hx, hl, hxl, hf⟩ := DataW.trod_struct ht h;simp only [Prod.mk.injEq] at hx;obtain ⟨rfl, -⟩ := hx;refine ⟨xs.map (·.1), m, rfl, hl.trans hC, fun i f t o k hi ht' ho hk => ?_⟩;subst ht' ho hk;have hil : i < fs.size := (Array.getElem?_eq_some_iff.1 hi).1;have h1 := hf i f hi;have hy : xs[i]? = some (xs[i]'(by omega)) := List.getElem?_eq_getElem (by omega);rw [hy] at h1;exact ⟨_, _, by rw [List.getElem?_map, hy]; rfl, h1⟩
def hpE : El Hp where
 size := 2
 bytes := 32
 rd := fun w S cs x => ∃ v, cs = [.int .i64 x.most, v] ∧ RdSl obE w S v x.objs
 keep := fun h ⟨v, hv, hr⟩ => ⟨v, hv, hr.keep (by decide) h⟩
 one := fun ⟨v, hv, A, c, hA, _⟩ u hu => by subst hv; subst hA; simp at hu; rcases hu with rfl | rfl <;> rfl
theorem opens_hp : Opens hpE Try.prog 25 := by
 intro H enc w base spare held n cs d pl h hw;obtain ⟨ds, m, rfl, hl, hdl, hf⟩ := trod_fields Try.underlying25 (by kernel_rfl) (by kernel_rfl) h;obtain ⟨v0, e0, p0, c0, d0, h0⟩ := hf 0 _ rfl;obtain ⟨v1, e1, p1, c1, d1, h1⟩ := hf 1 _ rfl;simp only [DataW.weights, Try.underlying25] at hw;obtain ⟨k0, g0, _, _⟩ := DataW.trod_int Try.underlying3 h0;obtain ⟨xs, _, u, hu, hr⟩ := opens_obs enc w base spare held m _ _ _ h1 (fun x hx => hw x (weightsEach_mem (i := 1) rfl d1 hx));match cs, hl with
 | [a, b], _ =>
  simp at c0 c1 g0 hu
  subst c0 c1 g0 hu;exact ⟨⟨k0, xs⟩, rfl, _, rfl, hr⟩
theorem sized_at {H : Type} {P : Program} {ts : List TypeId} {ds : List (DataW H)} {j : Nat} {t : TypeId} {d : DataW H} (h : (DataW.weightsEach P ts ds).all (· ≤ reachBytes) = true) (ht : ts[j]? = some t) (hd : ds[j]? = some d) :
  ∀ x ∈ d.weights P t, x ≤ reachBytes := fun x hx => by
 have := List.all_eq_true.1 h x (weightsEach_mem ht hd hx);simpa using this
theorem all_types {P : Program} {ts : List TypeId} (h : (ts.all fun t => P.readableRec t && decide (t < P.types.size)) = true) : ∀ t ∈ ts, P.readableRec t = true ∧ t < P.types.size := fun t ht => by
 have := List.all_eq_true.1 h t ht;simpa using this
theorem wf_i64_range {a : Int} (h : (Lit.int .i64 a).wf = true) : -9223372036854775808 ≤ a ∧ a ≤ 9223372036854775807 := by
 simp [Lit.wf, IntKind.min, IntKind.max, IntKind.signed, IntKind.bits] at h
 exact ⟨by omega, by omega⟩
section
variable {H : Type} {enc : TypeId × Value → H} {W : World} {base b0 : Nat} {spare : Nat → Bool} {held : Bool} {v : Value} {d : DataW H} {p : List MemPlace}
theorem arg_sl {α : Type} {E : El α} {hs : 0 < E.size} {t e : TypeId} (ho : Opens (slE E hs) Try.prog t) (ht : Try.prog.underlying t = some (.slice e)) (h : DataW.Trod enc Try.prog W base spare held t v d p)
  (hv : Value.okWide Try.prog W .any b0 t v) (hw : ∀ x ∈ d.weights Try.prog t, x ≤ reachBytes) : ∃ xs A c, v = .slice A xs.length c ∧ RdSl E W (fun _ => True) (.slice A xs.length c) xs := by
 obtain ⟨n, hn⟩ := h;obtain ⟨a, len, cap, rfl⟩ := okWide_slice ht hv;obtain ⟨xs, _, u, hu, hr⟩ := ho enc W base spare held n _ _ _ hn hw;simp [Value.cells] at hu
 subst hu;obtain ⟨A, c, he, _⟩ := hr.form
 cases he
 exact ⟨xs, a, cap, rfl, hr⟩
theorem arg_vs (h : DataW.Trod enc Try.prog W base spare held 26 v d p) (hv : Value.okWide Try.prog W .any b0 26 v) (hw : ∀ x ∈ d.weights Try.prog 26, x ≤ reachBytes) :
  ∃ xs A c, v = .slice A xs.length c ∧ RdSl vE W (fun _ => True) (.slice A xs.length c) xs := arg_sl opens_vs Try.underlying26 h hv hw
theorem arg_v (h : DataW.Trod enc Try.prog W base spare held 30 v d p) (hv : Value.okWide Try.prog W .any b0 30 v) (hw : ∀ x ∈ d.weights Try.prog 30, x ≤ reachBytes) :
  ∃ x : V, v = .agg #[.int .i64 x.k, .int .i64 x.n] := by
 obtain ⟨n, hn⟩ := h;obtain ⟨⟨l⟩, rfl, _⟩ := okWide_struct Try.underlying30 hv;obtain ⟨x, _, hx⟩ := opens_v enc W base spare held n _ _ _ hn hw;exact ⟨x, congrArg (fun l : List Value => Value.agg l.toArray) hx⟩
theorem arg_hp (h : DataW.Trod enc Try.prog W base spare held 25 v d p) (hv : Value.okWide Try.prog W .any b0 25 v) (hw : ∀ x ∈ d.weights Try.prog 25, x ≤ reachBytes) :
  ∃ m os A c, v = .agg #[.int .i64 m, .slice A os.length c] ∧ RdSl obE W (fun _ => True) (.slice A os.length c) os := by
 obtain ⟨n, hn⟩ := h;obtain ⟨⟨l⟩, rfl, _⟩ := okWide_struct Try.underlying25 hv;obtain ⟨ds, m, rfl, hl, hdl, hf⟩ := trod_fields Try.underlying25 (by kernel_rfl) (by kernel_rfl) hn;obtain ⟨v0, e0, p0, c0, d0, h0⟩ := hf 0 _ rfl;obtain ⟨v1, e1, p1, c1, d1, h1⟩ := hf 1 _ rfl;simp only [DataW.weights, Try.underlying25] at hw;obtain ⟨k0, g0, _, _⟩ := DataW.trod_int Try.underlying3 h0;obtain ⟨xs, _, u, hu, hr⟩ := opens_obs enc W base spare held m _ _ _ h1 (fun x hx => hw x (weightsEach_mem (i := 1) rfl d1 hx));obtain ⟨A, c, rfl, _⟩ := hr.form;simp only [Value.cells] at hl c0 c1;match l, hl with
 | [a, b], _ =>
  simp at c0 c1 g0 hu
  subst c0 c1 g0 hu;exact ⟨k0, xs, A, c, rfl, hr⟩
end
theorem opens_rw : Opens rwE Try.prog 54 := by
 intro H enc w base spare held n cs d pl h _;obtain ⟨ds, m, rfl, hl, hdl, hf⟩ := trod_fields Try.underlying54 (by kernel_rfl) (by kernel_rfl) h;obtain ⟨v0, e0, p0, c0, _, h0⟩ := hf 0 _ rfl;obtain ⟨v1, e1, p1, c1, _, h1⟩ := hf 1 _ rfl;obtain ⟨v2, e2, p2, c2, _, h2⟩ := hf 2 _ rfl;obtain ⟨v3, e3, p3, c3, _, h3⟩ := hf 3 _ rfl;obtain ⟨k0, g0, _, w0⟩ := DataW.trod_int Try.underlying3 h0;obtain ⟨k1, g1, _, w1⟩ := DataW.trod_int Try.underlying3 h1;obtain ⟨k2, g2, _, w2⟩ := DataW.trod_int Try.underlying3 h2;obtain ⟨k3, g3, _, w3⟩ := DataW.trod_int Try.underlying3 h3;match cs, hl with
 | [a, b, c, d], _ =>
  simp at c0 c1 c2 c3 g0 g1 g2 g3
  subst c0 c1 c2 c3 g0 g1 g2 g3;exact ⟨⟨k0, k1, k2, k3⟩, rfl, rfl, w0, w1, w2, w3⟩
theorem opens_rws : Opens (slE rwE (by decide)) Try.prog 22 := opens_sl opens_rw Try.underlying22 (by kernel_rfl) (by kernel_rfl) _
theorem arg_rs {H : Type} {enc : TypeId × Value → H} {W : World} {base b0 : Nat} {spare : Nat → Bool} {held : Bool} {v : Value} {d : DataW H} {p : List MemPlace} (h : DataW.Trod enc Try.prog W base spare held 22 v d p) (hv : Value.okWide Try.prog W .any b0 22 v) (hw : ∀ x ∈ d.weights Try.prog 22, x ≤ reachBytes) :
  ∃ xs A c, v = .slice A xs.length c ∧ RdSl rwE W (fun _ => True) (.slice A xs.length c) xs := arg_sl opens_rws Try.underlying22 h hv hw
end Go.Proofs.Ytabcjdalifhpdaa
