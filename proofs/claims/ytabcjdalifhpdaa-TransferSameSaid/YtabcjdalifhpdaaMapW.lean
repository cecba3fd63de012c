/- A map of the call's own whose keys are known: what is there is told by a list, what it holds by a function. No condition. -/
import Derived.Test.YtabcjdalifhpdaaMap
import Derived.Test.YtabcjdalifhpdaaSt
import Derived.Maps.OwnSet
namespace Go.Proofs.Ytabcjdalifhpdaa
open Go.RowKit Go.Maps
def MapW (P : Program) (kt e : TypeId) (z : Value) (w : World) (b : Nat) (l : List Int) (f : Int → Value) : Prop :=
 ∃ D : DataW Unit, w.ownsMap P kt (plainElem P e) b l.length D ∧ IsMap D ∧ ∃ zd, plainElem P e z = some (zd, []) ∧
  ∀ k : Int, (Lit.int .i64 k).wf = true → Maps.has D (.int .i64 k) = decide (k ∈ l) ∧ ∃ d, plainElem P e (f k) = some (d, []) ∧ D.atKey (.int .i64 k) zd = d
section
variable {P : Program} {kt e t : TypeId} {z : Value} {w w' : World} {b : Nat} {l : List Int} {f : Int → Value}
theorem MapW.made {zd : DataW Unit} (he : plainElem (H := Unit) P e z = some (zd, [])) : MapW P kt e z (w.alloc (.map #[] 0)) w.heap.size [] (fun _ => z) :=
 ⟨_, World.ownsMap_made _ _ _ _, ⟨[], rfl⟩, zd, he, fun _ _ => ⟨by simp [has_eq], zd, he, rfl⟩⟩
theorem MapW.lt (h : MapW P kt e z w b l f) : b < w.heap.size := let ⟨_, h, _⟩ := h; h.lt
theorem MapW.keep (h : MapW P kt e z w b l f) (hb : w'.heap[b]? = w.heap[b]?) : MapW P kt e z w' b l f := by
 obtain ⟨D, ⟨es, clock, hh, r1⟩, r⟩ := h;exact ⟨D, ⟨es, clock, hb.trans hh, r1⟩, r⟩
theorem MapW.look (h : MapW P kt e z w b l f) (he : P.underlying e = some .bool ∨ ∃ q, P.underlying e = some (.int q)) (hk : P.underlying kt = some (.int .i64)) (ht : P.underlying t = some (.map kt e))
  (hz : (zeroValue e).run P w = .ok z w) {k : Int} (hw : (Lit.int .i64 k).wf = true) : (Instr.lookup t (.map (some b)) (.int .i64 k) true).run P w = .ok (.tuple #[f k, .bool (decide (k ∈ l))]) w := by
 obtain ⟨D, h1, h2, zd, h3, h4⟩ := h;obtain ⟨v, ps, hrun, hv⟩ := h1.look_ok (int_keyed hk) ht hz h3 (keyOf_int_mk hk hw);obtain ⟨hh, d, hd, hat⟩ := h4 k hw;rw [hat] at hv;rw [plain_inj he hd hv, ← hh];exact hrun
theorem MapW.update (h : MapW P kt e z w b l f) (hk : P.underlying kt = some (.int .i64)) (ht : P.underlying t = some (.map kt e)) (hn : l.length < maxLen) {k : Int} (hw : (Lit.int .i64 k).wf = true) {v : Value} {d : DataW Unit} (hv : plainElem P e v = some (d, [])) :
  ∃ w', (Instr.mapUpdate t (.map (some b)) (.int .i64 k) v).run P w = .ok () w' ∧ MapW P kt e z w' b (l ++ [k]) (fun i => if i = k then v else f i) ∧ w.grownBy w' (some b) := by
 obtain ⟨D, h1, h2, zd, h3, h4⟩ := h;obtain ⟨w', hrun, ho, hg⟩ := h1.update (int_keyed hk) ht hn (keyOf_int_mk hk hw) hv;refine ⟨w', hrun, ⟨_, by simpa using ho, ?_, zd, h3, fun i hi => ?_⟩, hg⟩
 ·obtain ⟨es, rfl⟩ := h2;exact ⟨_, rfl⟩
 ·by_cases hik : i = k
  ·subst hik;refine ⟨?_, d, by simpa using hv, atKey_put_same (k := .int .i64 i) h2 trivial _ _⟩;rw [has_put_same (k := .int .i64 i) h2 trivial];simp
  ·obtain ⟨hh, d', hd', hat⟩ := h4 i hi;refine ⟨?_, d', by simpa [hik] using hd', ?_⟩
   ·rw [has_put_other (fun e => hik (by injection e)), hh];simp [hik]
   ·rw [atKey_put_other (fun e => hik (by injection e))];exact hat
end
theorem wpList_update_mw {P : Program} (w : World) {ops : Array Oper} {rest : List Oper} {o : Oper} {a : Act} {Q : Exit → Act → World → Prop}
  (hg : o.guard = none) (m x v : Operand) (t : TypeId) (hop : o.op = Op.mapUpdate t m x v) (kt e : TypeId) (z : Value) (b : Nat) (l : List Int) (f : Int → Value) (hk : P.underlying kt = some (.int .i64)) (ht : P.underlying t = some (.map kt e))
  (hm : a.eval m = .map (some b)) (hown : MapW P kt e z w b l f) (hn : l.length < maxLen) (k : Int) (val : Value) (hx : a.eval x = .int .i64 k) (hv : a.eval v = val) (hw : (Lit.int .i64 k).wf = true) (d : DataW Unit) (hval : plainElem P e val = some (d, []))
  (hK : ∀ w', MapW P kt e z w' b (l ++ [k]) (fun i => if i = k then val else f i) → w.grownBy w' (some b) → wpList P ops Q rest (a.put o.dst undef) w') : wpList P ops Q (o :: rest) a w := by
 refine wpList_plain hg fun K' hK' => ?_;obtain ⟨w', hrun, r1, r2⟩ := hown.update hk ht hn hw hval;unfold Oper.wp;simp [execOp, hop, hm, hx, hv, hrun, Result.andThen]
 exact hK' _ _ (hK w' r1 r2)
def mapRW (P : Program) (kt e : TypeId) (z : Value) (b : Nat) (l : List Int) (f : Int → Value) : Res := .any (fun k => k = b) (fun w => MapW P kt e z w b l f) (fun _ _ hk h => h.keep (hk b rfl))
section
variable {B : Nat} {w0 w w' : World} {R : List Res}
theorem St.mapw (h : St B w0 w R) (i : Nat) {P : Program} {kt e : TypeId} {z : Value} {b : Nat} {l : List Int} {f : Int → Value} (hi : R[i]? = some (mapRW P kt e z b l f)) : MapW P kt e z w b l f := h.at_ i hi
theorem St.mapwPut (h : St B w0 w R) (i : Nat) {P : Program} {kt e : TypeId} {z : Value} {b : Nat} {l : List Int} {f : Int → Value} (hi : R[i]? = some (mapRW P kt e z b l f)) {l' : List Int} {g : Int → Value} (hg : w.grownBy w' (some b)) (ho : MapW P kt e z w' b l' g) :
  St B w0 w' (R.set i (mapRW P kt e z b l' g)) ∧ Keeps w R w' (R.set i (mapRW P kt e z b l' g)) :=
 h.grown i hi (mapRW P kt e z b l' g) hg (fun _ hb => by injection hb with hb; exact hb.symm) ho (fun _ hb => .inl hb)
end
end Go.Proofs.Ytabcjdalifhpdaa
