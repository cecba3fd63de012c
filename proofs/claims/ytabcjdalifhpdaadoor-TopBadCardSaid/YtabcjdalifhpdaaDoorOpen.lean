/- How an argument that was read is opened: what the form's reading of a slice, a struct, a heap, a program, a world gives as plain data; and how a law's statement is closed. No condition beside the form's own. -/
import Derived.Test.YtabcjdalifhpdaaDoorMem
import Derived.Test.YtabcjdalifhpdaaDoorRows
import Derived.ProofKit
import Derived.OpenShut
import Derived.SizedLaws
import Derived.Deep.Slices
import Derived.Deep.Fields
namespace Go.Proofs.YtabcjdalifhpdaaDoor
open Go.ChangeShapes Go.WideShapes Go.ChangeAt Go.RowKit Go.Deep
def Opens {α : Type} (E : El α) (P : Program) (t : TypeId) : Prop :=
 ∀ {H : Type} (enc : TypeId × Value → H) (w : World) (base : Nat) (spare : Nat → Bool) (held : Bool) (n : Nat) (cs : List Value) (d : DataW H) (pl : List MemPlace),
  DataW.trod enc P w base spare held n t cs = some (d, pl) → (∀ x ∈ d.weights P t, x ≤ reachBytes) → ∃ x, cs.length = E.size ∧ E.rd w (fun _ => True) cs x
theorem weightsAll_mem {H : Type} {P : Program} {e : TypeId} {x : Nat} : ∀ {l : List (DataW H)} {d : DataW H}, d ∈ l → x ∈ d.weights P e → x ∈ DataW.weightsAll P e l
 | [], _, h, _ => by cases h
 | y :: r, d, h, hx => by
  rw [DataW.weightsAll, List.mem_append];rcases List.mem_cons.1 h with rfl | h
  ·exact .inl hx
  ·exact .inr (weightsAll_mem h hx)
theorem list_of {α : Type} {Q : Nat → α → Prop} : ∀ n : Nat, (∀ i, i < n → ∃ x, Q i x) → ∃ xs : List α, xs.length = n ∧ ∀ i x, xs[i]? = some x → Q i x
 | 0, _ => ⟨[], rfl, fun i x h => by simp at h⟩
 | n + 1, h => by
  obtain ⟨xs, hl, hx⟩ := list_of n (fun i hi => h i (by omega));obtain ⟨y, hy⟩ := h n (by omega);refine ⟨xs ++ [y], by simp [hl], fun i x hix => ?_⟩;rcases Nat.lt_or_ge i n with hlt | hge
  ·rw [List.getElem?_append_left (by omega)] at hix;exact hx i x hix
  ·rw [List.getElem?_append_right (by omega)] at hix;have : i = n := by
    rcases Nat.eq_or_lt_of_le hge with h | h
    ·exact h.symm
    ·rw [List.getElem?_eq_none (by simp; omega)] at hix; cases hix
   subst this;simp [hl] at hix
   rw [← hix]; exact hy
theorem opens_sl {α : Type} {E : El α} {P : Program} {t e : TypeId} (hE : Opens E P e) (ht : P.underlying t = some (.slice e)) (hC : P.cellsOf e = E.size) (hB : P.bytesOf e = E.bytes) (hs : 0 < E.size) : Opens (slE E hs) P t := by
 intro H enc w base spare held n cs d pl h hw;rcases open_slice ht h with ⟨rfl, hx⟩ | ⟨a, len, cap, m, n', D, Pl, rfl, _, hl, hm, hmm, hx, hi⟩
 ·exact ⟨[], rfl, _, rfl, none, 0, rfl, Nat.le_refl _, Nat.zero_le _, by simp, fun h => absurd rfl h⟩
 ·simp only [Prod.mk.injEq] at hx;obtain ⟨rfl, -⟩ := hx;simp only [DataW.weights, ht] at hw;have hb := hw _ (List.mem_cons_self ..);simp only [List.length_map, List.length_range, hB] at hb;have hlm : len ≤ m := by rw [hmm]; split <;> omega
  have hel : ∀ i, i < len → ∃ x cs', cs'.length = E.size ∧ E.rd w (fun _ => True) cs' x ∧ w.cells? base (a.add (i * P.cellsOf e)) (P.cellsOf e) = some cs' := by
   intro i hil;obtain ⟨cs', hc, htr⟩ := hi i (by omega);obtain ⟨x, hcl, hx⟩ := hE enc w base spare held n' cs' (D i) (Pl i) htr (fun y hy => hw y (List.mem_cons_of_mem _ (List.mem_append_left _ (weightsAll_mem (List.mem_map.2 ⟨i, List.mem_range.2 hil, rfl⟩) hy))));exact ⟨x, cs', hcl, hx, hc⟩
  obtain ⟨xs, hxl, hxs⟩ := list_of len hel;subst hxl;refine ⟨xs, rfl, _, rfl, some a, cap, rfl, hl, hm, by unfold reachBytes at hb; have h2 : xs.length * E.bytes ≤ (xs.length + (m - xs.length)) * E.bytes := Nat.mul_le_mul_right _ (Nat.le_add_right _ _); omega, fun hne => ?_⟩;have h0 : 0 < xs.length := List.length_pos_iff.2 hne;obtain ⟨x0, cs0, hc0, _, h0c⟩ := hel 0 h0;obtain ⟨_, _, hat0⟩ := World.cells?_some h0c;have hsp : a.spot = none := by
   have hv : cs0[0]? = some (cs0[0]'(by omega)) := List.getElem?_eq_getElem (by omega);have h1 := hat0 0 (by omega);rw [hv] at h1;simp only [Nat.zero_mul] at h1
   cases hs : a.spot with
   | none => rfl
   | some q => simp [World.cell?, Addr.add, hs] at h1; split at h1 <;> simp at h1
  refine ⟨a.block, a.off, ?_, trivial, fun i x hx => ?_⟩
  ·cases a; simp_all
  obtain ⟨cs', hcl, hrd, hc⟩ := hxs i x hx;obtain ⟨_, hlen, hat⟩ := World.cells?_some hc;refine ⟨cs', hcl, hrd, fun j u hu => ?_⟩;have hj : j < cs'.length := (List.getElem?_eq_some_iff.1 hu).1;have h1 := hat j (by omega);rw [hu] at h1;rw [← h1, add_add, hC];congr 1
  cases a
  simp_all [Addr.add]
  split <;> simp_all <;> omega
theorem trod_fields {H : Type} {enc : TypeId × Value → H} {P : Program} {w : World} {base : Nat} {spare : Nat → Bool} {held : Bool} {n : Nat} {t : TypeId} {fs : Array Field} {cs : List Value} {d : DataW H} {pl : List MemPlace}
  (ht : P.underlying t = some (.struct fs)) (hone : oneCellFields P fs = true) (hC : P.cellsOf t = fs.size) (h : DataW.trod enc P w base spare held n t cs = some (d, pl)) :
  ∃ (ds : List (DataW H)) (m : Nat), d = .agg ds ∧ cs.length = fs.size ∧ ds.length = fs.size ∧
   ∀ (i : Nat) (f : Field), fs[i]? = some f → ∃ v e pl', cs[i]? = some v ∧ ds[i]? = some e ∧ DataW.trod enc P w base spare held m f.type [v] = some (e, pl') := by
 obtain ⟨xs, m, _, hx, hl, hxl, hf⟩ := DataW.trod_struct ht h;simp only [Prod.mk.injEq] at hx;obtain ⟨rfl, -⟩ := hx;refine ⟨xs.map (·.1), m, rfl, hl.trans hC, by simpa using hxl, fun i f hi => ?_⟩;obtain ⟨ho, hk⟩ := hone_of hone i f hi;have hil : i < fs.size := (Array.getElem?_eq_some_iff.1 hi).1;have h1 := hf i f hi;have hv : cs[i]? = some (cs[i]'(by omega)) := List.getElem?_eq_getElem (by omega);have hy : xs[i]? = some (xs[i]'(by omega)) := List.getElem?_eq_getElem (by omega);rw [ho, hk, hy] at h1;have hone' : (cs.drop i).take 1 = [cs[i]'(by omega)] := by
  rw [List.drop_eq_getElem_cons (by omega)];rfl
 rw [hone'] at h1;exact ⟨_, _, _, hv, by rw [List.getElem?_map, hy]; rfl, h1⟩
theorem weightsEach_mem {H : Type} {P : Program} {x : Nat} : ∀ {ts : List TypeId} {ds : List (DataW H)} {i : Nat} {t : TypeId} {d : DataW H}, ts[i]? = some t → ds[i]? = some d → x ∈ d.weights P t → x ∈ DataW.weightsEach P ts ds
 | [], _, i, t, d, h, _, _ => by simp at h
 | _ :: _, [], i, t, d, _, h, _ => by simp at h
 | u :: ts, e :: ds, 0, t, d, h, h', hx => by
  simp at h h'
  subst h; subst h';rw [DataW.weightsEach, List.mem_append];exact .inl hx
 | u :: ts, e :: ds, i + 1, t, d, h, h', hx => by
  rw [DataW.weightsEach, List.mem_append];exact .inr (weightsEach_mem (by simpa using h) (by simpa using h') hx)
section
variable {H : Type} {enc : TypeId × Value → H} {P : Program}
theorem trodAll_later {W W' : World} (hl : laidOutB P = true) (hb : Below W.heap.size W W') (sp : Nat → Bool) :
  ∀ (ts : List TypeId) (vs : List Value) (ds : List (DataW H)) (p : List MemPlace), (∀ t ∈ ts, P.readableRec t = true ∧ t < P.types.size) →
   DataW.TrodAll enc P W 0 (fun _ => true) true ts vs ds p → (∀ x ∈ p, x.block < W.heap.size) → (∀ x ∈ p, sp x.block = true) → DataW.TrodAll enc P W' 0 sp true ts vs ds p
 | [], [], [], _, _, h, _, _ => h
 | [], [], _ :: _, _, _, h, _, _ => h.elim
 | [], _ :: _, _, _, _, h, _, _ => by cases h
 | _ :: _, [], _, _, _, h, _, _ => by cases h
 | _ :: _, _ :: _, [], _, _, h, _, _ => by cases h
 | t :: ts, v :: vs, d :: ds, q, hts, h, hlt, hsp => by
  obtain ⟨p1, q1, h1, h2, rfl⟩ := h;obtain ⟨hr, hrow⟩ := hts t (List.mem_cons_self ..);exact ⟨p1, q1, WideElems.Trod_stays hl hr hrow h1 (fun x hx => hb.same (hlt x (List.mem_append_left _ hx))) (fun x hx => hsp x (List.mem_append_left _ hx)),
   trodAll_later hl hb sp ts vs ds q1 (fun u hu => hts u (List.mem_cons_of_mem _ hu)) h2 (fun x hx => hlt x (List.mem_append_right _ hx)) (fun x hx => hsp x (List.mem_append_right _ hx)), rfl⟩
theorem law_post {f : Func} {s : ChangeSpec} {W W' : World} {args : Array Value} {ds : List (DataW H)} {before : List MemPlace} {tb : TypeId} (hl : laidOutB P = true)
  (hbool : P.underlying tb = some .bool) (hres : f.resultTypes = #[tb]) (hts : ∀ t ∈ f.params.toList, P.readableRec t = true ∧ t < P.types.size) (hv : s.vars = [])
  (hW : DataW.Whole enc P f.params.toList s.vars false W args.toList ds [] before) (hs : s.fn H (ds ++ []) = { results := [.lit (.bool true)], args := ds }) (hb : Below W.heap.size W W') :
  s.post enc P f false true false false W args (.bool true) W' := by
 have hlt : ∀ p ∈ before, p.block < W.heap.size := fun p hp => hW.lt p hp;obtain ⟨p, q, hA, hV, hpq, hz, hn⟩ := hW;rw [hv] at hV;have hq : q = [] := hV;subst hq;rw [List.append_nil] at hpq;subst hpq;refine ⟨ds, [], before, [], before, [], ⟨before, [], hA, by rw [hv]; rfl, by simp, hz, hn⟩, ?_, ?_, ?_, World.keptBut_mono (fun p hp => ⟨hp, .inr (.inl hp)⟩) (hb.frame (· ∈ before)), fun h => by cases h⟩
 ·rw [hs, hres];exact trodAll_mk1 (shut_bool hbool true)
 ·rw [hs];exact trodAll_later hl hb _ _ _ _ _ hts hA hlt (fun x hx => by simpa using hlt x hx)
 ·rw [hs, hv];exact rfl
end
theorem facts_of {P : Program} {f : FuncId} {fn : Func} {s : ChangeSpec} {c : OpenClaim}
  (k1 : c.wf (OpenSpec.ofChange s) = true)
  (k2 : laidOutB P = true)
  (k3 : mapsRowed P = true)
  (k4 : fn.params.all (P.readableRec ·) = true)
  (k5 : namedTie P c.named s.vars = true)
  (k6 : (c.stops == []) = true)
  (k7 : (P.stops == []) = true)
  (k8 : (c.knobs == []) = true)
  (k9 : (P.stopKnobs == []) = true)
  (k10 : (c.inPlace == P.inPlace f) = true)
  (k11 : (c.unfollowed == P.unfollowed f) = true)
  (k12 : (c.recurses == P.recurses f) = true)
  (k13 : (c.named == P.varsNamed f) = true)
  (k14 : (c.maps == (fn.params.toList ++ s.plain.varTypes P).any (P.mapsRec ·)) = true)
  (k15 : (c.ifaces == (fn.params.toList ++ s.plain.varTypes P).any (P.ifacesRec ·)) = true)
  (k16 : (c.mapsOut == P.mapsAmong fn.resultTypes.toList) = true)
  (k17 : (c.loops == (fn.params.toList ++ s.plain.varTypes P).any (P.loopsFrom ·)) = true)
  (k18 : (c.wideKeys == (fn.params.toList ++ s.plain.varTypes P ++ fn.resultTypes.toList).any (P.wideKeysFrom ·)) = true)
  (k19 : s.vars.all (P.varReadable ·) = true)
  (k20 : fn.resultTypes.all (fun t => P.readableRec t && decide (t < P.types.size)) = true)
  (k21 : (c.ifacesOut == fn.resultTypes.toList.any (P.ifacesRec ·)) = true)
  (k22 : (c.loopsOut == fn.resultTypes.toList.any (P.loopsFrom ·)) = true)
  (k23 : (c.plainKeys == P.plainKeys) = true)
  (k24 : c.shortTexts.isNone = true)
  (k25 : P.stopsHeard = true)
  (k26 : P.mayEnter = true)
  (k27 : (c.lifted == P.liftsFinal) = true)
  (k28 : (P.make == some c.make) = true)
  (k29 : c.domain = [] ∧ c.kinds = [])
  (k30 : (c.pinned == c.pinnedBy) = true)
  (k31 : (c.veiled == (fn.params.toList ++ s.plain.varTypes P ++ fn.resultTypes.toList).any (P.veiledRec ·)) = true)
  (k32 : c.veiledFits P fn.params.toList (fn.params.toList ++ s.plain.varTypes P ++ fn.resultTypes.toList) = true) : joinedFacts P f fn s c = true := by
 unfold joinedFacts;rw [k1, k2, k3, k4, k5, k6, k7, k8, k9, k10, k11, k12, k13, k14, k15, k16, k17, k18, k19, k20, k21, k22, k23, k24, k25, k26, k27, k28, k29.1, k29.2, k30, k31, k32];rfl
theorem wordsSigns_word : ∀ (a b : List Char), (a.all fun c => c != Char.ofNat 32) = true → wordsSigns (a ++ Char.ofNat 32 :: b) = a :: wordsSigns b
 | [], b, _ => rfl
 | c :: a, b, h => by
  simp only [List.all_cons, Bool.and_eq_true] at h;have ih := wordsSigns_word a b h.2;have hc : c ≠ Char.ofNat 32 := (by simpa using h.1);rw [List.cons_append];conv => lhs; unfold wordsSigns
  split
  ·rename_i he; cases he
  ·rename_i r he
   injection he with h1 _
   exact absurd h1 hc
  ·rename_i d r hne he
   injection he with h1 h2
   subst h1 h2;rw [ih]
end Go.Proofs.YtabcjdalifhpdaaDoor
