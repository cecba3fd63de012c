/- A map of the call's own, keyed by integers, whose elements are plain: what it holds is told by a function. No condition. -/
import Derived.Test.YtabcjdalifhpdaaDoorLoc
import Derived.Maps.Own
import Derived.Maps.OwnOps
import Derived.Maps.Views
namespace Go.Proofs.YtabcjdalifhpdaaDoor
open Go.RowKit Go.Maps
def MapV (P : Program) (kt e : TypeId) (z : Value) (w : World) (b n : Nat) (f : Int → Value) : Prop :=
 ∃ D : DataW Unit, w.ownsMap P kt (plainElem P e) b n D ∧ IsMap D ∧ ∃ zd, plainElem P e z = some (zd, []) ∧
  ∀ k : Int, (Lit.int .i64 k).wf = true → ∃ d, plainElem P e (f k) = some (d, []) ∧ D.atKey (.int .i64 k) zd = d
section
variable {P : Program} {kt e t : TypeId} {z : Value} {w w' : World} {b n : Nat} {f : Int → Value}
theorem plain_inj {v v' : Value} {d : DataW Unit} {ps ps' : List MemPlace} (he : P.underlying e = some .bool ∨ ∃ q, P.underlying e = some (.int q)) (h : plainElem P e v = some (d, ps)) (h' : plainElem P e v' = some (d, ps')) : v = v' := by
 rcases he with he | ⟨q, he⟩
 ·unfold plainElem at h h';rw [he] at h h'
  cases v <;> simp at h
  cases v' <;> simp at h'
  obtain ⟨rfl, _⟩ := h;obtain ⟨h', _⟩ := h';injection h' with h'
  injection h' with h'
  rw [h']
 ·obtain ⟨a, rfl, h1, _⟩ := plainElem_int_inv he h;obtain ⟨a', rfl, h2, _⟩ := plainElem_int_inv he h';simp only [Prod.mk.injEq] at h1 h2;have := h1.1.symm.trans h2.1;injection this with this
  injection this with _ this
  rw [this]
theorem MapV.made {zd : DataW Unit} (he : plainElem (H := Unit) P e z = some (zd, [])) : MapV P kt e z (w.alloc (.map #[] 0)) w.heap.size 0 (fun _ => z) :=
 ⟨_, World.ownsMap_made _ _ _ _, ⟨[], rfl⟩, zd, he, fun _ _ => ⟨zd, he, rfl⟩⟩
theorem MapV.lt (h : MapV P kt e z w b n f) : b < w.heap.size := let ⟨_, h, _⟩ := h; h.lt
theorem MapV.mono (h : MapV P kt e z w b n f) {m : Nat} (hm : n ≤ m) : MapV P kt e z w b m f := let ⟨D, h, r⟩ := h; ⟨D, h.mono hm, r⟩
theorem MapV.keep (h : MapV P kt e z w b n f) (hb : w'.heap[b]? = w.heap[b]?) : MapV P kt e z w' b n f := by
 obtain ⟨D, ⟨es, clock, hh, r1⟩, r⟩ := h;exact ⟨D, ⟨es, clock, hb.trans hh, r1⟩, r⟩
theorem MapV.congr (h : MapV P kt e z w b n f) {g : Int → Value} (hg : ∀ k, (Lit.int .i64 k).wf = true → g k = f k) : MapV P kt e z w b n g := by
 obtain ⟨D, h1, h2, zd, h3, h4⟩ := h;exact ⟨D, h1, h2, zd, h3, fun k hk => by rw [hg k hk]; exact h4 k hk⟩
theorem MapV.lookup (h : MapV P kt e z w b n f) (he : P.underlying e = some .bool ∨ ∃ q, P.underlying e = some (.int q)) (hk : P.underlying kt = some (.int .i64)) (ht : P.underlying t = some (.map kt e))
  (hz : (zeroValue e).run P w = .ok z w) {k : Int} (hw : (Lit.int .i64 k).wf = true) : (Instr.lookup t (.map (some b)) (.int .i64 k) false).run P w = .ok (f k) w := by
 obtain ⟨D, h1, h2, zd, h3, h4⟩ := h;obtain ⟨v, ps, hrun, hv⟩ := h1.lookup (int_keyed hk) ht hz h3 (keyOf_int_mk hk hw);obtain ⟨d, hd, hat⟩ := h4 k hw;rw [hat] at hv;rw [plain_inj he hd hv];exact hrun
theorem MapV.update (h : MapV P kt e z w b n f) (hk : P.underlying kt = some (.int .i64)) (ht : P.underlying t = some (.map kt e)) (hn : n < maxLen) {k : Int} (hw : (Lit.int .i64 k).wf = true) {v : Value} {d : DataW Unit} (hv : plainElem P e v = some (d, [])) :
  ∃ w', (Instr.mapUpdate t (.map (some b)) (.int .i64 k) v).run P w = .ok () w' ∧ MapV P kt e z w' b (n + 1) (fun i => if i = k then v else f i) ∧ w.grownBy w' (some b) := by
 obtain ⟨D, h1, h2, zd, h3, h4⟩ := h;obtain ⟨w', hrun, ho, hg⟩ := h1.update (int_keyed hk) ht hn (keyOf_int_mk hk hw) hv;refine ⟨w', hrun, ⟨_, ho, ?_, zd, h3, fun i hi => ?_⟩, hg⟩
 ·obtain ⟨es, rfl⟩ := h2;exact ⟨_, rfl⟩
 ·by_cases hik : i = k
  ·subst hik;exact ⟨d, by simpa using hv, atKey_put_same (k := .int .i64 i) h2 trivial _ _⟩
  ·obtain ⟨d', hd', hat⟩ := h4 i hi;refine ⟨d', by simpa [hik] using hd', ?_⟩;rw [atKey_put_other (fun e => hik (by injection e))];exact hat
end
theorem wpList_update_mv {P : Program} (w : World) {ops : Array Oper} {rest : List Oper} {o : Oper} {a : Act} {Q : Exit → Act → World → Prop}
  (hg : o.guard = none) (m x v : Operand) (t : TypeId) (hop : o.op = Op.mapUpdate t m x v) (kt e : TypeId) (z : Value) (b n : Nat) (f : Int → Value) (hk : P.underlying kt = some (.int .i64)) (ht : P.underlying t = some (.map kt e))
  (hm : a.eval m = .map (some b)) (hown : MapV P kt e z w b n f) (hn : n < maxLen) (k : Int) (val : Value) (hx : a.eval x = .int .i64 k) (hv : a.eval v = val) (hw : (Lit.int .i64 k).wf = true) (d : DataW Unit) (hval : plainElem P e val = some (d, []))
  (hK : ∀ w', MapV P kt e z w' b (n + 1) (fun i => if i = k then val else f i) → w.grownBy w' (some b) → wpList P ops Q rest (a.put o.dst undef) w') : wpList P ops Q (o :: rest) a w := by
 refine wpList_plain hg fun K' hK' => ?_;obtain ⟨w', hrun, r1, r2⟩ := hown.update hk ht hn hw hval;unfold Oper.wp;simp [execOp, hop, hm, hx, hv, hrun, Result.andThen]
 exact hK' _ _ (hK w' r1 r2)
end Go.Proofs.YtabcjdalifhpdaaDoor
