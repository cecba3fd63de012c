/- How the data lie in memory: what it says that a value reads as a list, a heap, a program or a world; that such a reading stays while the blocks that it met stay; no condition. -/
import Derived.Test.YtabcjdalifhpdaaDoorData
import Derived.WalkKit
import Derived.WalkSpells
import Derived.WalkLawsBesides
namespace Go.Proofs.YtabcjdalifhpdaaDoor
open Go.RowKit
structure El (α : Type) where
 size : Nat
 bytes : Nat
 rd : World → (Nat → Prop) → List Value → α → Prop
 keep : ∀ {w w' : World} {S S' : Nat → Prop} {cs : List Value} {x : α},
  (∀ b, b < w.heap.size → S b → S' b ∧ w'.heap[b]? = w.heap[b]?) → rd w S cs x → rd w' S' cs x
 one : ∀ {w : World} {S : Nat → Prop} {cs : List Value} {x : α}, rd w S cs x → ∀ u ∈ cs, u.oneCell' = true
def RdSl {α : Type} (E : El α) (w : World) (S : Nat → Prop) (v : Value) (xs : List α) : Prop :=
 ∃ A c, v = .slice A xs.length c ∧ xs.length ≤ c ∧ c ≤ maxLen ∧ xs.length * E.bytes ≤ 140737488355328 ∧
  (xs ≠ [] → ∃ b o, A = some ⟨b, o, none⟩ ∧ S b ∧
   ∀ (i : Nat) (x : α), xs[i]? = some x → ∃ cs, cs.length = E.size ∧ E.rd w S cs x ∧ ∀ (j : Nat) (u : Value), cs[j]? = some u → w.cell? ⟨b, o + i * E.size + j, none⟩ = some u)
theorem lt_of_cell {w : World} {b o : Nat} {u : Value} (h : w.cell? ⟨b, o, none⟩ = some u) : b < w.heap.size := by
 rcases Nat.lt_or_ge b w.heap.size with hl | hg
 ·exact hl
 ·simp [World.cell?, Array.getElem?_eq_none hg] at h
theorem cell_al {w : World} {b i : Nat} {u : Value} (h : w.cell? ⟨b, i, none⟩ = some u) (o : Obj) : (w.alloc o).cell? ⟨b, i, none⟩ = some u :=
 (World.cell?_alloc_lt w o ⟨b, i, none⟩ (lt_of_cell h)).trans h
theorem cell_new {w w' : World} {cs : Array Value} {t : TypeId} (hb : Below (w.alloc (.cells cs t)).heap.size (w.alloc (.cells cs t)) w') (i : Nat) : w'.cell? ⟨w.heap.size, i, none⟩ = cs[i]? := by
 rw [hb.cell (p := ⟨w.heap.size, i, none⟩) (by simp)];simp [go_sem]
theorem cell_keep {w w' : World} {b o : Nat} (h : w'.heap[b]? = w.heap[b]?) : w'.cell? ⟨b, o, none⟩ = w.cell? ⟨b, o, none⟩ :=
 World.cell?_of_block (w := w) (a := ⟨b, o, none⟩) h
theorem RdSl.keep {α : Type} {E : El α} (hs : 0 < E.size) {w w' : World} {S S' : Nat → Prop} {v : Value} {xs : List α}
  (h : ∀ b, b < w.heap.size → S b → S' b ∧ w'.heap[b]? = w.heap[b]?) (hr : RdSl E w S v xs) : RdSl E w' S' v xs := by
 obtain ⟨A, c, hv, h1, h2, h3, h4⟩ := hr;refine ⟨A, c, hv, h1, h2, h3, fun hne => ?_⟩;obtain ⟨b, o, hA, hS, hi⟩ := h4 hne;have hb : b < w.heap.size := by
  obtain ⟨x, l, rfl⟩ := List.exists_cons_of_ne_nil hne;obtain ⟨cs, hl, _, hc⟩ := hi 0 x rfl;have h0 : cs[0]? = some (cs[0]'(by omega)) := List.getElem?_eq_getElem (by omega);exact lt_of_cell (hc 0 _ h0)
 refine ⟨b, o, hA, (h b hb hS).1, fun i x hx => ?_⟩;obtain ⟨cs, hl, hrd, hc⟩ := hi i x hx;exact ⟨cs, hl, E.keep h hrd, fun j u hu => (cell_keep (h b hb hS).2).trans (hc j u hu)⟩
def slE {α : Type} (E : El α) (hs : 0 < E.size) : El (List α) where
 size := 1
 bytes := 24
 rd := fun w S cs xs => ∃ v, cs = [v] ∧ RdSl E w S v xs
 keep := fun h ⟨v, hv, hr⟩ => ⟨v, hv, hr.keep hs h⟩
 one := fun ⟨v, hv, A, c, hA, _⟩ u hu => by subst hv; subst hA; simp at hu; subst hu; rfl
def iE : El Int where
 size := 1
 bytes := 8
 rd := fun _ _ cs x => cs = [.int .i64 x]
 keep := fun _ h => h
 one := fun h u hu => by (try replace h := h.1); subst h; simp at hu; rcases hu with rfl | hu <;> (try rfl) <;> (try (rcases hu with rfl | hu <;> (try rfl))) <;> (try (rcases hu with rfl | rfl <;> rfl)) <;> (subst hu; rfl)
def bE : El UInt8 where
 size := 1
 bytes := 1
 rd := fun _ _ cs x => cs = [.int .u8 x.toNat]
 keep := fun _ h => h
 one := fun h u hu => by (try replace h := h.1); subst h; simp at hu; rcases hu with rfl | hu <;> (try rfl) <;> (try (rcases hu with rfl | hu <;> (try rfl))) <;> (try (rcases hu with rfl | rfl <;> rfl)) <;> (subst hu; rfl)
def yE : El Bool where
 size := 1
 bytes := 1
 rd := fun _ _ cs x => cs = [.bool x]
 keep := fun _ h => h
 one := fun h u hu => by (try replace h := h.1); subst h; simp at hu; rcases hu with rfl | hu <;> (try rfl) <;> (try (rcases hu with rfl | hu <;> (try rfl))) <;> (try (rcases hu with rfl | rfl <;> rfl)) <;> (subst hu; rfl)
def vE : El V where
 size := 2
 bytes := 16
 rd := fun _ _ cs x => cs = [.int .i64 x.k, .int .i64 x.n]
 keep := fun _ h => h
 one := fun h u hu => by (try replace h := h.1); subst h; simp at hu; rcases hu with rfl | hu <;> (try rfl) <;> (try (rcases hu with rfl | hu <;> (try rfl))) <;> (try (rcases hu with rfl | rfl <;> rfl)) <;> (subst hu; rfl)
def insE : El Ins where
 size := 4
 bytes := 32
 rd := fun _ _ cs x => cs = [.int .i64 x.op, .int .i64 x.a, .int .i64 x.b, .int .i64 x.n]
 keep := fun _ h => h
 one := fun h u hu => by (try replace h := h.1); subst h; simp at hu; rcases hu with rfl | hu <;> (try rfl) <;> (try (rcases hu with rfl | hu <;> (try rfl))) <;> (try (rcases hu with rfl | rfl <;> rfl)) <;> (subst hu; rfl)
def deedE : El Deed where
 size := 4
 bytes := 32
 rd := fun _ _ cs x => cs = [.int .i64 x.kind, .int .i64 x.actor, .int .i64 x.n, .int .i64 x.m]
 keep := fun _ h => h
 one := fun h u hu => by (try replace h := h.1); subst h; simp at hu; rcases hu with rfl | hu <;> (try rfl) <;> (try (rcases hu with rfl | hu <;> (try rfl))) <;> (try (rcases hu with rfl | rfl <;> rfl)) <;> (subst hu; rfl)
def tdE : El Td where
 size := 2
 bytes := 16
 rd := fun _ _ cs x => cs = [.int .i64 x.actor, .int .i64 x.n]
 keep := fun _ h => h
 one := fun h u hu => by (try replace h := h.1); subst h; simp at hu; rcases hu with rfl | hu <;> (try rfl) <;> (try (rcases hu with rfl | hu <;> (try rfl))) <;> (try (rcases hu with rfl | rfl <;> rfl)) <;> (subst hu; rfl)
def rwE : El Rw where
 size := 4
 bytes := 32
 rd := fun _ _ cs x => cs = [.int .i64 x.kind, .int .i64 x.a, .int .i64 x.b, .int .i64 x.c] ∧
  (Lit.int .i64 x.kind).wf = true ∧ (Lit.int .i64 x.a).wf = true ∧ (Lit.int .i64 x.b).wf = true ∧ (Lit.int .i64 x.c).wf = true
 keep := fun _ h => h
 one := fun h u hu => by (try replace h := h.1); subst h; simp at hu; rcases hu with rfl | hu <;> (try rfl) <;> (try (rcases hu with rfl | hu <;> (try rfl))) <;> (try (rcases hu with rfl | rfl <;> rfl)) <;> (subst hu; rfl)
def obE : El Ob where
 size := 2
 bytes := 32
 rd := fun w S cs x => ∃ v, cs = [v, .bool x.dead] ∧ RdSl vE w S v x.fields
 keep := fun h ⟨v, hv, hr⟩ => ⟨v, hv, hr.keep (by decide) h⟩
 one := fun ⟨v, hv, A, c, hA, _⟩ u hu => by subst hv; subst hA; simp at hu; rcases hu with rfl | rfl <;> rfl
def acE : El Ac where
 size := 8
 bytes := 112
 rd := fun w S cs x => ∃ ho vr vb, cs = [.int .i64 x.kind, .int .i64 x.parent, .int .i64 x.heap.most, ho, vr, .int .i64 x.pc, vb, .int .i64 x.fin] ∧
  RdSl obE w S ho x.heap.objs ∧ RdSl vE w S vr x.regs ∧ RdSl vE w S vb x.box
 keep := fun h ⟨ho, vr, vb, hv, h1, h2, h3⟩ => ⟨ho, vr, vb, hv, h1.keep (by decide) h, h2.keep (by decide) h, h3.keep (by decide) h⟩
 one := fun ⟨ho, vr, vb, hv, ⟨A, c, h1, _⟩, ⟨B, d, h2, _⟩, ⟨C, e, h3, _⟩⟩ u hu => by
  subst hv; subst h1; subst h2; subst h3; simp at hu; rcases hu with rfl | rfl | rfl | rfl | rfl | rfl | rfl | rfl <;> rfl
def RdHp (w : World) (S : Nat → Prop) (v : Value) (h : Hp) : Prop := ∃ s, v = .agg #[.int .i64 h.most, s] ∧ RdSl obE w S s h.objs
def RdPg (w : World) (S : Nat → Prop) (v : Value) (p : List (List Ins)) : Prop := ∃ s, v = .agg #[s] ∧ RdSl (slE insE (by decide)) w S s p
def RdWd (w : World) (S : Nat → Prop) (v : Value) (d : Wd) : Prop :=
 ∃ s t, v = .agg #[s, t] ∧ RdSl acE w S s d.actors ∧ RdSl tdE w S t d.prints
def RdAc (w : World) (S : Nat → Prop) (v : Value) (x : Ac) : Prop := ∃ cs : List Value, v = .agg cs.toArray ∧ acE.rd w S cs x
section
variable {w w' : World} {S S' : Nat → Prop} {v : Value}
theorem RdHp.keep {h : Hp} (hk : ∀ b, b < w.heap.size → S b → S' b ∧ w'.heap[b]? = w.heap[b]?) : RdHp w S v h → RdHp w' S' v h :=
 fun ⟨s, hv, hr⟩ => ⟨s, hv, hr.keep (by decide) hk⟩
theorem RdPg.keep {p : List (List Ins)} (hk : ∀ b, b < w.heap.size → S b → S' b ∧ w'.heap[b]? = w.heap[b]?) : RdPg w S v p → RdPg w' S' v p :=
 fun ⟨s, hv, hr⟩ => ⟨s, hv, hr.keep (by show 0 < 1; omega) hk⟩
theorem RdWd.keep {d : Wd} (hk : ∀ b, b < w.heap.size → S b → S' b ∧ w'.heap[b]? = w.heap[b]?) : RdWd w S v d → RdWd w' S' v d :=
 fun ⟨s, t, hv, h1, h2⟩ => ⟨s, t, hv, h1.keep (by decide) hk, h2.keep (by decide) hk⟩
theorem RdAc.keep {x : Ac} (hk : ∀ b, b < w.heap.size → S b → S' b ∧ w'.heap[b]? = w.heap[b]?) : RdAc w S v x → RdAc w' S' v x :=
 fun ⟨cs, hv, hr⟩ => ⟨cs, hv, acE.keep hk hr⟩
theorem Below.hold (hb : Below w.heap.size w w') : ∀ b, b < w.heap.size → S b → S b ∧ w'.heap[b]? = w.heap[b]? :=
 fun b h hS => ⟨hS, hb.block b h⟩
theorem widen (h : ∀ b, b < w.heap.size → S b → S' b) : ∀ b, b < w.heap.size → S b → S' b ∧ w.heap[b]? = w.heap[b]? :=
 fun b hb hS => ⟨h b hb hS, rfl⟩
theorem RdSl.below {α : Type} {E : El α} {xs : List α} (h : RdSl E w S v xs) (hs : 0 < E.size) (hb : Below w.heap.size w w') : RdSl E w' S v xs := h.keep hs (Below.hold hb)
theorem RdHp.below {h : Hp} (hr : RdHp w S v h) (hb : Below w.heap.size w w') : RdHp w' S v h := hr.keep (Below.hold hb)
theorem RdPg.below {p : List (List Ins)} (hr : RdPg w S v p) (hb : Below w.heap.size w w') : RdPg w' S v p := hr.keep (Below.hold hb)
theorem RdWd.below {d : Wd} (hr : RdWd w S v d) (hb : Below w.heap.size w w') : RdWd w' S v d := hr.keep (Below.hold hb)
theorem RdAc.below {x : Ac} (hr : RdAc w S v x) (hb : Below w.heap.size w w') : RdAc w' S v x := hr.keep (Below.hold hb)
theorem RdSl.form {α : Type} {E : El α} {xs : List α} (h : RdSl E w S v xs) :
  ∃ A c, v = .slice A xs.length c ∧ xs.length ≤ c ∧ c ≤ 9223372036854775807 ∧ xs.length * E.bytes ≤ 140737488355328 := by
 obtain ⟨A, c, hv, h1, h2, h3, _⟩ := h;exact ⟨A, c, hv, h1, h2, h3⟩
theorem RdSl.lims {α : Type} {E : El α} {xs : List α} {A : Option Addr} {n c : Nat} (h : RdSl E w S (.slice A n c) xs) :
  n = xs.length ∧ n ≤ c ∧ c ≤ 9223372036854775807 ∧ xs.length * E.bytes ≤ 140737488355328 := by
 obtain ⟨A', c', hv, h1, h2, h3, _⟩ := h
 cases hv
 exact ⟨rfl, h1, h2, h3⟩
theorem RdSl.at_ {α : Type} {E : El α} {xs : List α} {A : Option Addr} {n c : Nat} (h : RdSl E w S (.slice A n c) xs) {i : Nat} {x : α} (hx : xs[i]? = some x) :
  ∃ b o cs, A = some ⟨b, o, none⟩ ∧ S b ∧ cs.length = E.size ∧ E.rd w S cs x ∧ ∀ (j : Nat) (u : Value), cs[j]? = some u → w.cell? ⟨b, o + i * E.size + j, none⟩ = some u := by
 obtain ⟨A', c', hv, _, _, _, h4⟩ := h;injection hv with hA _ _
 subst hA;obtain ⟨b, o, hA, hS, hi⟩ := h4 (by rintro rfl; simp at hx);obtain ⟨cs, hl, hrd, hc⟩ := hi i x hx;exact ⟨b, o, cs, hA, hS, hl, hrd, hc⟩
theorem RdSl.at_i {xs : List Int} {A : Option Addr} {n c : Nat} (h : RdSl iE w S (.slice A n c) xs) {i : Nat} {x : Int} (hx : xs[i]? = some x) :
  ∃ b o, A = some ⟨b, o, none⟩ ∧ S b ∧ b < w.heap.size ∧ w.cell? ⟨b, o + i, none⟩ = some (.int .i64 x) := by
 obtain ⟨b, o, cs, hA, hS, _, rfl, hc⟩ := h.at_ hx;have h0 := hc 0 _ rfl;simp only [iE, Nat.mul_one, Nat.add_zero] at h0;exact ⟨b, o, hA, hS, lt_of_cell h0, h0⟩
theorem RdSl.at_b {xs : List UInt8} {A : Option Addr} {n c : Nat} (h : RdSl bE w S (.slice A n c) xs) {i : Nat} {x : UInt8} (hx : xs[i]? = some x) :
  ∃ b o, A = some ⟨b, o, none⟩ ∧ S b ∧ b < w.heap.size ∧ w.cell? ⟨b, o + i, none⟩ = some (.int .u8 x.toNat) := by
 obtain ⟨b, o, cs, hA, hS, _, rfl, hc⟩ := h.at_ hx;have h0 := hc 0 _ rfl;simp only [bE, Nat.mul_one, Nat.add_zero] at h0;exact ⟨b, o, hA, hS, lt_of_cell h0, h0⟩
theorem RdSl.at_y {xs : List Bool} {A : Option Addr} {n c : Nat} (h : RdSl yE w S (.slice A n c) xs) {i : Nat} {x : Bool} (hx : xs[i]? = some x) :
  ∃ b o, A = some ⟨b, o, none⟩ ∧ S b ∧ b < w.heap.size ∧ w.cell? ⟨b, o + i, none⟩ = some (.bool x) := by
 obtain ⟨b, o, cs, hA, hS, _, rfl, hc⟩ := h.at_ hx;have h0 := hc 0 _ rfl;simp only [yE, Nat.mul_one, Nat.add_zero] at h0;exact ⟨b, o, hA, hS, lt_of_cell h0, h0⟩
theorem RdSl.at_v {xs : List V} {A : Option Addr} {n c : Nat} (h : RdSl vE w S (.slice A n c) xs) {i : Nat} {x : V} (hx : xs[i]? = some x) :
  ∃ b o, A = some ⟨b, o, none⟩ ∧ S b ∧ b < w.heap.size ∧ w.cell? ⟨b, o + i * 2, none⟩ = some (.int .i64 x.k) ∧ w.cell? ⟨b, o + i * 2 + 1, none⟩ = some (.int .i64 x.n) := by
 obtain ⟨b, o, cs, hA, hS, _, rfl, hc⟩ := h.at_ hx;have h0 := hc 0 _ rfl;have h1 := hc 1 _ rfl;simp only [vE, Nat.add_zero] at h0 h1;exact ⟨b, o, hA, hS, lt_of_cell h0, h0, h1⟩
theorem RdSl.at_t {xs : List Td} {A : Option Addr} {n c : Nat} (h : RdSl tdE w S (.slice A n c) xs) {i : Nat} {x : Td} (hx : xs[i]? = some x) :
  ∃ b o, A = some ⟨b, o, none⟩ ∧ S b ∧ b < w.heap.size ∧ w.cell? ⟨b, o + i * 2, none⟩ = some (.int .i64 x.actor) ∧ w.cell? ⟨b, o + i * 2 + 1, none⟩ = some (.int .i64 x.n) := by
 obtain ⟨b, o, cs, hA, hS, _, rfl, hc⟩ := h.at_ hx;have h0 := hc 0 _ rfl;have h1 := hc 1 _ rfl;simp only [tdE, Nat.add_zero] at h0 h1;exact ⟨b, o, hA, hS, lt_of_cell h0, h0, h1⟩
theorem RdSl.at_o {xs : List Ob} {A : Option Addr} {n c : Nat} (h : RdSl obE w S (.slice A n c) xs) {i : Nat} {x : Ob} (hx : xs[i]? = some x) :
  ∃ b o B d, A = some ⟨b, o, none⟩ ∧ S b ∧ b < w.heap.size ∧ w.cell? ⟨b, o + i * 2, none⟩ = some (.slice B x.fields.length d) ∧ w.cell? ⟨b, o + i * 2 + 1, none⟩ = some (.bool x.dead) ∧
   RdSl vE w S (.slice B x.fields.length d) x.fields := by
 obtain ⟨b, o, cs, hA, hS, _, ⟨v, rfl, hr⟩, hc⟩ := h.at_ hx;obtain ⟨B, d, rfl, _⟩ := hr.form;have h0 := hc 0 _ rfl;have h1 := hc 1 _ rfl;simp only [obE, Nat.add_zero] at h0 h1;exact ⟨b, o, B, d, hA, hS, lt_of_cell h0, h0, h1, hr⟩
theorem RdSl.at_s {α : Type} {E : El α} {hs : 0 < E.size} {xs : List (List α)} {A : Option Addr} {n c : Nat} (h : RdSl (slE E hs) w S (.slice A n c) xs) {i : Nat} {x : List α} (hx : xs[i]? = some x) :
  ∃ b o B d, A = some ⟨b, o, none⟩ ∧ S b ∧ b < w.heap.size ∧ w.cell? ⟨b, o + i, none⟩ = some (.slice B x.length d) ∧ RdSl E w S (.slice B x.length d) x := by
 obtain ⟨b, o, cs, hA, hS, _, ⟨v, rfl, hr⟩, hc⟩ := h.at_ hx;obtain ⟨B, d, rfl, _⟩ := hr.form;have h0 := hc 0 _ rfl;simp only [slE, Nat.mul_one, Nat.add_zero] at h0;exact ⟨b, o, B, d, hA, hS, lt_of_cell h0, h0, hr⟩
theorem RdSl.at_n {xs : List Ins} {A : Option Addr} {n c : Nat} (h : RdSl insE w S (.slice A n c) xs) {i : Nat} {x : Ins} (hx : xs[i]? = some x) :
  ∃ b o, A = some ⟨b, o, none⟩ ∧ S b ∧ b < w.heap.size ∧ w.cell? ⟨b, o + i * 4, none⟩ = some (.int .i64 x.op) ∧ w.cell? ⟨b, o + i * 4 + 1, none⟩ = some (.int .i64 x.a) ∧
   w.cell? ⟨b, o + i * 4 + 2, none⟩ = some (.int .i64 x.b) ∧ w.cell? ⟨b, o + i * 4 + 3, none⟩ = some (.int .i64 x.n) := by
 obtain ⟨b, o, cs, hA, hS, _, rfl, hc⟩ := h.at_ hx;have h0 := hc 0 _ rfl;have h1 := hc 1 _ rfl;have h2 := hc 2 _ rfl;have h3 := hc 3 _ rfl;simp only [insE, Nat.add_zero] at h0 h1 h2 h3;exact ⟨b, o, hA, hS, lt_of_cell h0, h0, h1, h2, h3⟩
theorem RdSl.at_d {xs : List Deed} {A : Option Addr} {n c : Nat} (h : RdSl deedE w S (.slice A n c) xs) {i : Nat} {x : Deed} (hx : xs[i]? = some x) :
  ∃ b o, A = some ⟨b, o, none⟩ ∧ S b ∧ b < w.heap.size ∧ w.cell? ⟨b, o + i * 4, none⟩ = some (.int .i64 x.kind) ∧ w.cell? ⟨b, o + i * 4 + 1, none⟩ = some (.int .i64 x.actor) ∧
   w.cell? ⟨b, o + i * 4 + 2, none⟩ = some (.int .i64 x.n) ∧ w.cell? ⟨b, o + i * 4 + 3, none⟩ = some (.int .i64 x.m) := by
 obtain ⟨b, o, cs, hA, hS, _, rfl, hc⟩ := h.at_ hx;have h0 := hc 0 _ rfl;have h1 := hc 1 _ rfl;have h2 := hc 2 _ rfl;have h3 := hc 3 _ rfl;simp only [deedE, Nat.add_zero] at h0 h1 h2 h3;exact ⟨b, o, hA, hS, lt_of_cell h0, h0, h1, h2, h3⟩
theorem RdSl.at_w {xs : List Rw} {A : Option Addr} {n c : Nat} (h : RdSl rwE w S (.slice A n c) xs) {i : Nat} {x : Rw} (hx : xs[i]? = some x) :
  ∃ b o, A = some ⟨b, o, none⟩ ∧ S b ∧ b < w.heap.size ∧ w.cell? ⟨b, o + i * 4, none⟩ = some (.int .i64 x.kind) ∧ w.cell? ⟨b, o + i * 4 + 1, none⟩ = some (.int .i64 x.a) ∧
   w.cell? ⟨b, o + i * 4 + 2, none⟩ = some (.int .i64 x.b) ∧ w.cell? ⟨b, o + i * 4 + 3, none⟩ = some (.int .i64 x.c) ∧
   (Lit.int .i64 x.kind).wf = true ∧ (Lit.int .i64 x.a).wf = true ∧ (Lit.int .i64 x.b).wf = true ∧ (Lit.int .i64 x.c).wf = true := by
 obtain ⟨b, o, cs, hA, hS, _, ⟨rfl, hw⟩, hc⟩ := h.at_ hx;have h0 := hc 0 _ rfl;have h1 := hc 1 _ rfl;have h2 := hc 2 _ rfl;have h3 := hc 3 _ rfl;simp only [rwE, Nat.add_zero] at h0 h1 h2 h3;exact ⟨b, o, hA, hS, lt_of_cell h0, h0, h1, h2, h3, hw⟩
theorem RdSl.at_a {xs : List Ac} {A : Option Addr} {n c : Nat} (h : RdSl acE w S (.slice A n c) xs) {i : Nat} {x : Ac} (hx : xs[i]? = some x) :
  ∃ b o Bo co Br cr Bb cb, A = some ⟨b, o, none⟩ ∧ S b ∧ b < w.heap.size ∧ w.cell? ⟨b, o + i * 8, none⟩ = some (.int .i64 x.kind) ∧ w.cell? ⟨b, o + i * 8 + 1, none⟩ = some (.int .i64 x.parent) ∧
   w.cell? ⟨b, o + i * 8 + 2, none⟩ = some (.int .i64 x.heap.most) ∧ w.cell? ⟨b, o + i * 8 + 3, none⟩ = some (.slice Bo x.heap.objs.length co) ∧
   w.cell? ⟨b, o + i * 8 + 4, none⟩ = some (.slice Br x.regs.length cr) ∧ w.cell? ⟨b, o + i * 8 + 5, none⟩ = some (.int .i64 x.pc) ∧
   w.cell? ⟨b, o + i * 8 + 6, none⟩ = some (.slice Bb x.box.length cb) ∧ w.cell? ⟨b, o + i * 8 + 7, none⟩ = some (.int .i64 x.fin) ∧
   RdSl obE w S (.slice Bo x.heap.objs.length co) x.heap.objs ∧ RdSl vE w S (.slice Br x.regs.length cr) x.regs ∧ RdSl vE w S (.slice Bb x.box.length cb) x.box := by
 obtain ⟨b, o, cs, hA, hS, _, ⟨ho, vr, vb, rfl, h8, h9, h10⟩, hc⟩ := h.at_ hx;obtain ⟨Bo, co, rfl, _⟩ := h8.form;obtain ⟨Br, cr, rfl, _⟩ := h9.form;obtain ⟨Bb, cb, rfl, _⟩ := h10.form;have h0 := hc 0 _ rfl;have h1 := hc 1 _ rfl;have h2 := hc 2 _ rfl;have h3 := hc 3 _ rfl;have h4 := hc 4 _ rfl;have h5 := hc 5 _ rfl;have h6 := hc 6 _ rfl;have h7 := hc 7 _ rfl;simp only [acE, Nat.add_zero] at h0 h1 h2 h3 h4 h5 h6 h7;exact ⟨b, o, Bo, co, Br, cr, Bb, cb, hA, hS, lt_of_cell h0, h0, h1, h2, h3, h4, h5, h6, h7, h8, h9, h10⟩
end
end Go.Proofs.YtabcjdalifhpdaaDoor
