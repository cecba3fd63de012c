/- An append to a slice of the call's own, whatever slice is appended, a nil one too. No condition beside sizes. -/
import Derived.Test.YtabcjdalifhpdaaDoorLoc
import Derived.Deep.AppendSrc
namespace Go.Proofs.YtabcjdalifhpdaaDoor
open Go.RowKit
theorem grown_refl (w : World) (row : Option Nat) : w.grownBy w row := ⟨rfl, rfl, rfl, Nat.le_refl _, fun _ _ _ => rfl⟩
theorem run_append_none {P : Program} (w : World) (t ty e : TypeId) (i : TypeInfo) (ht : P.underlying t = some (.slice e)) (hi : P.info? e = some i) (B : Option Addr) (n c cx : Nat) (hn : n ≤ c) :
  (Builtin.append_ #[t, t] ty #[.slice B n c, .slice none 0 cx]).run P w = .ok (.slice B n c) w := by
 have h1 := run_firstCells_none (P := P) w i.size 0 0 cx;have h2 : ∀ W : World, (Builtin.lenOf (.slice none 0 cx)).run P W = .ok 0 W := fun _ => rfl
 cases B <;> simp [Builtin.append_, run_underlying ht, sizeOf, typeInfo, hi, hn, h1, h2, storeCells]
theorem wpList_append_any {P : Program} (w : World) {ops : Array Oper} {rest : List Oper} {o : Oper} {a : Act} {Q : Exit → Act → World → Prop} (hgd : o.guard = none) (s x : Operand) (t : TypeId)
  (ho : o.op = .call { callee := .builtin .append, args := #[s, x], argTypes := #[t, t] })
  (base : Nat) (e : TypeId) (i : TypeInfo) (z : Value) (size bytes : Nat) (ht : P.underlying t = some (.slice e)) (hi : P.info? e = some i) (hz : i.zero = some z)
  (hsize : i.size = size) (hby : i.bytes = bytes) (hzs : z.cells.size = size) (hsz : 0 < size)
  (v : Value) (n : Nat) (xs : List Value) (hs : a.eval s = v) (hown : w.ownsRow base e size v n xs)
  (A : Option Addr) (m c : Nat) (news : List Value) (hx : a.eval x = .slice A m c) (hl : news.length = m * size) (hnews : ∀ ad, A = some ad → ∀ (j : Nat) (u : Value), news[j]? = some u → w.cell? (ad.add j) = some u) (hnil : A = none → m = 0) (h1 : ∀ u ∈ news, u.oneCell' = true)
  (h63 : n + m ≤ maxLen) (hbytes : (n + m) * bytes ≤ 140737488355328) (hbase : base ≤ w.heap.size)
  (h : ∀ v' w', w'.ownsRow base e size v' (n + m) (xs ++ news) → w.grownBy w' v.ownBlock → wpList P ops Q rest (a.put o.dst v') w') : wpList P ops Q (o :: rest) a w := by
 cases A with
 | some ad => exact wpList_append_own w hgd s x t ho base e i z size bytes ht hi hz hsize hby hzs hsz v n xs hs hown ad m c news hx hl (hnews ad rfl) h1 h63 hbytes hbase (fun v' w' h2 h3 _ => h v' w' h2 h3)
 | none =>
  have hm := hnil rfl;subst hm;have hn : news = [] := List.eq_nil_of_length_eq_zero (by rw [hl]; simp);subst hn;refine wpList_plain hgd fun K hK => ?_;obtain ⟨B, cb, rfl⟩ := own_form hown;have hnc : n ≤ cb := by
   rcases hown.2 with ⟨h, h0⟩ | ⟨g, cap, _, h, _, _, h2, _⟩
   ·cases h; omega
   ·cases h; exact h2
  have hrun := run_append_none (P := P) w t o.type e i ht hi B n cb c hnc;unfold Oper.wp;simp [execOp, ho, resolve, invoke, builtin, hs, hx, hrun, Result.andThen]
  exact hK _ _ (h _ _ (by simpa using hown) (grown_refl _ _))
end Go.Proofs.YtabcjdalifhpdaaDoor
