/- How the data lie in memory: what it says that a value reads as a list, a heap, a program or a world; that such a reading stays while the blocks that it met stay; no condition. How an argument that was read is opened: what the form's reading of a slice, a struct, a heap, a program, a world gives as plain data; and how a law's statement is closed. No condition beside the form's own. -/
import Derived.Test.YtdmocjnjbihloaaDoorSpecE
import Derived.WalkKit
import Derived.WalkSpells
import Derived.WalkLawsBesides
import Derived.Test.YtdmocjnjbihloaaDoorRows
import Derived.ProofKit
import Derived.OpenShut
import Derived.SizedLaws
import Derived.Deep.Slices
import Derived.Deep.Fields
namespace Go.Proofs.YtdmocjnjbihloaaDoor
theorem zG {p:Prop} (h:p):Go.RowKit.Hid p:=h
section
open Go.RowKit
structure El (α:Type) where
 size:Nat
 bytes:Nat
 rd:World→(Nat→Prop)→List Value→α→Prop
 keep:∀{w w':World} {S S':Nat→Prop} {cs:List Value} {x:α},
  (∀b,b<w.heap.size→S b→S' b∧w'.heap[b]?=w.heap[b]?)→rd w S cs x→rd w' S' cs x
 one:∀{w:World} {S:Nat→Prop} {cs:List Value} {x:α},rd w S cs x→∀u∈cs,u.oneCell'=true
def aj {α:Type} (E:El α) (w:World) (S:Nat→Prop) (v:Value) (xs:List α):Prop:=
 ∃A c,v= .slice A xs.length c∧xs.length≤c∧c≤maxLen∧xs.length*E.bytes≤140737488355328∧
  (xs≠[]→∃b o,A=some ⟨b,o,none⟩∧S b∧
   ∀(i:Nat) (x:α),xs[i]?=some x→∃cs,cs.length=E.size∧E.rd w S cs x∧∀(j:Nat) (u:Value),cs[j]?=some u→w.cell? ⟨b,o+i*E.size+j,none⟩=some u)
theorem lt_of_cell {w:World} {b o:Nat} {u:Value} (h:w.cell? ⟨b,o,none⟩=some u):b<w.heap.size:=by
 rcases Nat.lt_or_ge b w.heap.size with hl|hg
 ·exact hl
 ·simp[World.cell?,Array.getElem?_eq_none hg] at h
theorem nK {w:World} {b i:Nat} {u:Value} (h:w.cell? ⟨b,i,none⟩=some u) (o:Obj):(w.alloc o).cell? ⟨b,i,none⟩=some u:=
 (World.cell?_alloc_lt w o ⟨b,i,none⟩ (lt_of_cell h)).trans h
theorem cell_new {w w':World} {cs:Array Value} {t:TypeId} (hb:Below (w.alloc (.cells cs t)).heap.size (w.alloc (.cells cs t)) w') (i:Nat):w'.cell? ⟨w.heap.size,i,none⟩=cs[i]?:=by
 rw[hb.cell (p:=⟨w.heap.size,i,none⟩) (by simp)];simp[go_sem]
theorem cell_keep {w w':World} {b o:Nat} (h:w'.heap[b]?=w.heap[b]?):w'.cell? ⟨b,o,none⟩=w.cell? ⟨b,o,none⟩:=
 World.cell?_of_block (w:=w) (a:=⟨b,o,none⟩) h
theorem aj.keep {α:Type} {E:El α} (hs:0<E.size) {w w':World} {S S':Nat→Prop} {v:Value} {xs:List α}
  (h:∀b,b<w.heap.size→S b→S' b∧w'.heap[b]?=w.heap[b]?) (hr:aj E w S v xs):aj E w' S' v xs:=by
 obtain⟨A,c,hv,h1,h2,h3,h4⟩:=hr;refine⟨A,c,hv,h1,h2,h3,fun hne=>?_⟩;obtain⟨b,o,hA,hS,hi⟩:=h4 hne;have hb:b<w.heap.size:=by
  obtain⟨x,l,rfl⟩:=List.exists_cons_of_ne_nil hne;obtain⟨cs,hl,_,hc⟩:=hi 0 x rfl;have h0:cs[0]?=some (cs[0]'(by omega)):=zD (by omega);exact lt_of_cell (hc 0 _ h0)
 refine⟨b,o,hA,(h b hb hS).1,fun i x hx=>?_⟩;obtain⟨cs,hl,hrd,hc⟩:=hi i x hx;exact⟨cs,hl,E.keep h hrd,fun j u hu=>(cell_keep (h b hb hS).2).trans (hc j u hu)⟩
def slE {α:Type} (E:El α) (hs:0<E.size):El (List α) where
 size:=1
 bytes:=24
 rd:=fun w S cs xs=>∃v,cs= [v]∧aj E w S v xs
 keep:=fun h ⟨v,hv,hr⟩=>⟨v,hv,hr.keep hs h⟩
 one:=fun⟨v,hv,A,c,hA,_⟩ u hu=>by subst hv;subst hA;simp at hu;subst hu;rfl
def iE:El Int where
 size:=1
 bytes:=8
 rd:=fun _ _ cs x=>cs= [.int .i64 x]
 keep:=fun _ h=>h
 one:=fun h u hu=>by(try replace h:=h.1);subst h;simp at hu;rcases hu with rfl|hu<;>(try rfl)<;>(try (rcases hu with rfl|hu<;>(try rfl)))<;>(try (rcases hu with rfl|rfl<;>rfl))<;>(subst hu;rfl)
def bE:El UInt8 where
 size:=1
 bytes:=1
 rd:=fun _ _ cs x=>cs= [.int .u8 x.toNat]
 keep:=fun _ h=>h
 one:=fun h u hu=>by(try replace h:=h.1);subst h;simp at hu;rcases hu with rfl|hu<;>(try rfl)<;>(try (rcases hu with rfl|hu<;>(try rfl)))<;>(try (rcases hu with rfl|rfl<;>rfl))<;>(subst hu;rfl)
def yE:El Bool where
 size:=1
 bytes:=1
 rd:=fun _ _ cs x=>cs= [.bool x]
 keep:=fun _ h=>h
 one:=fun h u hu=>by(try replace h:=h.1);subst h;simp at hu;rcases hu with rfl|hu<;>(try rfl)<;>(try (rcases hu with rfl|hu<;>(try rfl)))<;>(try (rcases hu with rfl|rfl<;>rfl))<;>(subst hu;rfl)
def vE:El V where
 size:=2
 bytes:=16
 rd:=fun _ _ cs x=>cs= [.int .i64 x.k,.int .i64 x.n]
 keep:=fun _ h=>h
 one:=fun h u hu=>by(try replace h:=h.1);subst h;simp at hu;rcases hu with rfl|hu<;>(try rfl)<;>(try (rcases hu with rfl|hu<;>(try rfl)))<;>(try (rcases hu with rfl|rfl<;>rfl))<;>(subst hu;rfl)
def eQ:El Ins where
 size:=4
 bytes:=32
 rd:=fun _ _ cs x=>cs= [.int .i64 x.op,.int .i64 x.a,.int .i64 x.b,.int .i64 x.n]
 keep:=fun _ h=>h
 one:=fun h u hu=>by(try replace h:=h.1);subst h;simp at hu;rcases hu with rfl|hu<;>(try rfl)<;>(try (rcases hu with rfl|hu<;>(try rfl)))<;>(try (rcases hu with rfl|rfl<;>rfl))<;>(subst hu;rfl)
def deedE:El ig where
 size:=4
 bytes:=32
 rd:=fun _ _ cs x=>cs= [.int .i64 x.kind,.int .i64 x.cK,.int .i64 x.n,.int .i64 x.m]
 keep:=fun _ h=>h
 one:=fun h u hu=>by(try replace h:=h.1);subst h;simp at hu;rcases hu with rfl|hu<;>(try rfl)<;>(try (rcases hu with rfl|hu<;>(try rfl)))<;>(try (rcases hu with rfl|rfl<;>rfl))<;>(subst hu;rfl)
def tdE:El Td where
 size:=2
 bytes:=16
 rd:=fun _ _ cs x=>cs= [.int .i64 x.cK,.int .i64 x.n]
 keep:=fun _ h=>h
 one:=fun h u hu=>by(try replace h:=h.1);subst h;simp at hu;rcases hu with rfl|hu<;>(try rfl)<;>(try (rcases hu with rfl|hu<;>(try rfl)))<;>(try (rcases hu with rfl|rfl<;>rfl))<;>(subst hu;rfl)
def rwE:El Rw where
 size:=4
 bytes:=32
 rd:=fun _ _ cs x=>cs= [.int .i64 x.kind,.int .i64 x.a,.int .i64 x.b,.int .i64 x.c]∧
  (Lit.int .i64 x.kind).wf=true∧(Lit.int .i64 x.a).wf=true∧(Lit.int .i64 x.b).wf=true∧(Lit.int .i64 x.c).wf=true
 keep:=fun _ h=>h
 one:=fun h u hu=>by(try replace h:=h.1);subst h;simp at hu;rcases hu with rfl|hu<;>(try rfl)<;>(try (rcases hu with rfl|hu<;>(try rfl)))<;>(try (rcases hu with rfl|rfl<;>rfl))<;>(subst hu;rfl)
def obE:El Ob where
 size:=2
 bytes:=32
 rd:=fun w S cs x=>∃v,cs= [v,.bool x.dead]∧aj vE w S v x.fields
 keep:=fun h ⟨v,hv,hr⟩=>⟨v,hv,hr.keep (by decide) h⟩
 one:=fun⟨v,hv,A,c,hA,_⟩ u hu=>by subst hv;subst hA;simp at hu;rcases hu with rfl|rfl<;>rfl
def acE:El Ac where
 size:=8
 bytes:=112
 rd:=fun w S cs x=>∃ho vr vb,cs= [.int .i64 x.kind,.int .i64 x.parent,.int .i64 x.heap.most,ho,vr,.int .i64 x.pc,vb,.int .i64 x.fin]∧
  aj obE w S ho x.heap.ah∧aj vE w S vr x.regs∧aj vE w S vb x.box
 keep:=fun h ⟨ho,vr,vb,hv,h1,h2,h3⟩=>⟨ho,vr,vb,hv,h1.keep (by decide) h,h2.keep (by decide) h,h3.keep (by decide) h⟩
 one:=fun⟨ho,vr,vb,hv,⟨A,c,h1,_⟩,⟨B,d,h2,_⟩,⟨C,e,h3,_⟩⟩ u hu=>by
  subst hv;subst h1;subst h2;subst h3;simp at hu;rcases hu with rfl|rfl|rfl|rfl|rfl|rfl|rfl|rfl<;>rfl
def RdHp (w:World) (S:Nat→Prop) (v:Value) (h:Hp):Prop:=∃s,v= .agg #[.int .i64 h.most,s]∧aj obE w S s h.ah
def RdPg (w:World) (S:Nat→Prop) (v:Value) (p:List (List Ins)):Prop:=∃s,v= .agg #[s]∧aj (slE eQ (by decide)) w S s p
def RdWd (w:World) (S:Nat→Prop) (v:Value) (d:Wd):Prop:=
 ∃s t,v= .agg #[s,t]∧aj acE w S s d.aa∧aj tdE w S t d.prints
def RdAc (w:World) (S:Nat→Prop) (v:Value) (x:Ac):Prop:=∃cs:List Value,v= .agg cs.toArray∧acE.rd w S cs x
section
variable {w w':World} {S S':Nat→Prop} {v:Value}
theorem RdHp.keep {h:Hp} (hk:∀b,b<w.heap.size→S b→S' b∧w'.heap[b]?=w.heap[b]?):RdHp w S v h→RdHp w' S' v h:=
 fun⟨s,hv,hr⟩=>⟨s,hv,hr.keep (by decide) hk⟩
theorem RdPg.keep {p:List (List Ins)} (hk:∀b,b<w.heap.size→S b→S' b∧w'.heap[b]?=w.heap[b]?):RdPg w S v p→RdPg w' S' v p:=
 fun⟨s,hv,hr⟩=>⟨s,hv,hr.keep (by show 0<1;omega) hk⟩
theorem RdWd.keep {d:Wd} (hk:∀b,b<w.heap.size→S b→S' b∧w'.heap[b]?=w.heap[b]?):RdWd w S v d→RdWd w' S' v d:=
 fun⟨s,t,hv,h1,h2⟩=>⟨s,t,hv,h1.keep (by decide) hk,h2.keep (by decide) hk⟩
theorem RdAc.keep {x:Ac} (hk:∀b,b<w.heap.size→S b→S' b∧w'.heap[b]?=w.heap[b]?):RdAc w S v x→RdAc w' S' v x:=
 fun⟨cs,hv,hr⟩=>⟨cs,hv,acE.keep hk hr⟩
theorem Below.hold (hb:Below w.heap.size w w'):∀b,b<w.heap.size→S b→S b∧w'.heap[b]?=w.heap[b]?:=
 fun b h hS=>⟨hS,hb.block b h⟩
theorem widen (h:∀b,b<w.heap.size→S b→S' b):∀b,b<w.heap.size→S b→S' b∧w.heap[b]?=w.heap[b]?:=
 fun b hb hS=>⟨h b hb hS,rfl⟩
theorem aj.below {α:Type} {E:El α} {xs:List α} (h:aj E w S v xs) (hs:0<E.size) (hb:Below w.heap.size w w'):aj E w' S v xs:=h.keep hs (Below.hold hb)
theorem RdHp.below {h:Hp} (hr:RdHp w S v h) (hb:Below w.heap.size w w'):RdHp w' S v h:=hr.keep (Below.hold hb)
theorem RdPg.below {p:List (List Ins)} (hr:RdPg w S v p) (hb:Below w.heap.size w w'):RdPg w' S v p:=hr.keep (Below.hold hb)
theorem RdWd.below {d:Wd} (hr:RdWd w S v d) (hb:Below w.heap.size w w'):RdWd w' S v d:=hr.keep (Below.hold hb)
theorem RdAc.below {x:Ac} (hr:RdAc w S v x) (hb:Below w.heap.size w w'):RdAc w' S v x:=hr.keep (Below.hold hb)
theorem aj.form {α:Type} {E:El α} {xs:List α} (h:aj E w S v xs):
  ∃A c,v= .slice A xs.length c∧xs.length≤c∧c≤9223372036854775807∧xs.length*E.bytes≤140737488355328:=by
 obtain⟨A,c,hv,h1,h2,h3,_⟩:=h;exact⟨A,c,hv,h1,h2,h3⟩
theorem aj.fw {α:Type} {E:El α} {xs:List α} {A:Option Addr} {n c:Nat} (h:aj E w S (.slice A n c) xs):
  n=xs.length∧n≤c∧c≤9223372036854775807∧xs.length*E.bytes≤140737488355328:=by
 obtain⟨A',c',hv,h1,h2,h3,_⟩:=h
 cases hv
 exact⟨rfl,h1,h2,h3⟩
theorem aj.at_ {α:Type} {E:El α} {xs:List α} {A:Option Addr} {n c:Nat} (h:aj E w S (.slice A n c) xs) {i:Nat} {x:α} (hx:xs[i]?=some x):
  ∃b o cs,A=some ⟨b,o,none⟩∧S b∧cs.length=E.size∧E.rd w S cs x∧∀(j:Nat) (u:Value),cs[j]?=some u→w.cell? ⟨b,o+i*E.size+j,none⟩=some u:=by
 obtain⟨A',c',hv,_,_,_,h4⟩:=h;injection hv with hA _ _
 subst hA;obtain⟨b,o,hA,hS,hi⟩:=h4 (by rintro rfl;simp at hx);obtain⟨cs,hl,hrd,hc⟩:=hi i x hx;exact⟨b,o,cs,hA,hS,hl,hrd,hc⟩
theorem aj.at_i {xs:List Int} {A:Option Addr} {n c:Nat} (h:aj iE w S (.slice A n c) xs) {i:Nat} {x:Int} (hx:xs[i]?=some x):
  ∃b o,A=some ⟨b,o,none⟩∧S b∧b<w.heap.size∧w.cell? ⟨b,o+i,none⟩=some (.int .i64 x):=by
 obtain⟨b,o,cs,hA,hS,_,rfl,hc⟩:=h.at_ hx;have h0:=hc 0 _ rfl;simp only[iE,Nat.mul_one,Nat.add_zero] at h0;exact⟨b,o,hA,hS,lt_of_cell h0,h0⟩
theorem aj.at_b {xs:List UInt8} {A:Option Addr} {n c:Nat} (h:aj bE w S (.slice A n c) xs) {i:Nat} {x:UInt8} (hx:xs[i]?=some x):
  ∃b o,A=some ⟨b,o,none⟩∧S b∧b<w.heap.size∧w.cell? ⟨b,o+i,none⟩=some (.int .u8 x.toNat):=by
 obtain⟨b,o,cs,hA,hS,_,rfl,hc⟩:=h.at_ hx;have h0:=hc 0 _ rfl;simp only[bE,Nat.mul_one,Nat.add_zero] at h0;exact⟨b,o,hA,hS,lt_of_cell h0,h0⟩
theorem aj.at_y {xs:List Bool} {A:Option Addr} {n c:Nat} (h:aj yE w S (.slice A n c) xs) {i:Nat} {x:Bool} (hx:xs[i]?=some x):
  ∃b o,A=some ⟨b,o,none⟩∧S b∧b<w.heap.size∧w.cell? ⟨b,o+i,none⟩=some (.bool x):=by
 obtain⟨b,o,cs,hA,hS,_,rfl,hc⟩:=h.at_ hx;have h0:=hc 0 _ rfl;simp only[yE,Nat.mul_one,Nat.add_zero] at h0;exact⟨b,o,hA,hS,lt_of_cell h0,h0⟩
theorem aj.at_v {xs:List V} {A:Option Addr} {n c:Nat} (h:aj vE w S (.slice A n c) xs) {i:Nat} {x:V} (hx:xs[i]?=some x):
  ∃b o,A=some ⟨b,o,none⟩∧S b∧b<w.heap.size∧w.cell? ⟨b,o+i*2,none⟩=some (.int .i64 x.k)∧w.cell? ⟨b,o+i*2+1,none⟩=some (.int .i64 x.n):=by
 obtain⟨b,o,cs,hA,hS,_,rfl,hc⟩:=h.at_ hx;have h0:=hc 0 _ rfl;have h1:=hc 1 _ rfl;simp only[vE,Nat.add_zero] at h0 h1;exact⟨b,o,hA,hS,lt_of_cell h0,h0,h1⟩
theorem aj.at_t {xs:List Td} {A:Option Addr} {n c:Nat} (h:aj tdE w S (.slice A n c) xs) {i:Nat} {x:Td} (hx:xs[i]?=some x):
  ∃b o,A=some ⟨b,o,none⟩∧S b∧b<w.heap.size∧w.cell? ⟨b,o+i*2,none⟩=some (.int .i64 x.cK)∧w.cell? ⟨b,o+i*2+1,none⟩=some (.int .i64 x.n):=by
 obtain⟨b,o,cs,hA,hS,_,rfl,hc⟩:=h.at_ hx;have h0:=hc 0 _ rfl;have h1:=hc 1 _ rfl;simp only[tdE,Nat.add_zero] at h0 h1;exact⟨b,o,hA,hS,lt_of_cell h0,h0,h1⟩
theorem aj.at_o {xs:List Ob} {A:Option Addr} {n c:Nat} (h:aj obE w S (.slice A n c) xs) {i:Nat} {x:Ob} (hx:xs[i]?=some x):
  ∃b o B d,A=some ⟨b,o,none⟩∧S b∧b<w.heap.size∧w.cell? ⟨b,o+i*2,none⟩=some (.slice B x.fields.length d)∧w.cell? ⟨b,o+i*2+1,none⟩=some (.bool x.dead)∧
   aj vE w S (.slice B x.fields.length d) x.fields:=by
 obtain⟨b,o,cs,hA,hS,_,⟨v,rfl,hr⟩,hc⟩:=h.at_ hx;obtain⟨B,d,rfl,_⟩:=hr.form;have h0:=hc 0 _ rfl;have h1:=hc 1 _ rfl;simp only[obE,Nat.add_zero] at h0 h1;exact⟨b,o,B,d,hA,hS,lt_of_cell h0,h0,h1,hr⟩
theorem aj.at_s {α:Type} {E:El α} {hs:0<E.size} {xs:List (List α)} {A:Option Addr} {n c:Nat} (h:aj (slE E hs) w S (.slice A n c) xs) {i:Nat} {x:List α} (hx:xs[i]?=some x):
  ∃b o B d,A=some ⟨b,o,none⟩∧S b∧b<w.heap.size∧w.cell? ⟨b,o+i,none⟩=some (.slice B x.length d)∧aj E w S (.slice B x.length d) x:=by
 obtain⟨b,o,cs,hA,hS,_,⟨v,rfl,hr⟩,hc⟩:=h.at_ hx;obtain⟨B,d,rfl,_⟩:=hr.form;have h0:=hc 0 _ rfl;simp only[slE,Nat.mul_one,Nat.add_zero] at h0;exact⟨b,o,B,d,hA,hS,lt_of_cell h0,h0,hr⟩
theorem aj.at_n {xs:List Ins} {A:Option Addr} {n c:Nat} (h:aj eQ w S (.slice A n c) xs) {i:Nat} {x:Ins} (hx:xs[i]?=some x):
  ∃b o,A=some ⟨b,o,none⟩∧S b∧b<w.heap.size∧w.cell? ⟨b,o+i*4,none⟩=some (.int .i64 x.op)∧w.cell? ⟨b,o+i*4+1,none⟩=some (.int .i64 x.a)∧
   w.cell? ⟨b,o+i*4+2,none⟩=some (.int .i64 x.b)∧w.cell? ⟨b,o+i*4+3,none⟩=some (.int .i64 x.n):=by
 obtain⟨b,o,cs,hA,hS,_,rfl,hc⟩:=h.at_ hx;have h0:=hc 0 _ rfl;have h1:=hc 1 _ rfl;have h2:=hc 2 _ rfl;have h3:=hc 3 _ rfl;simp only[eQ,Nat.add_zero] at h0 h1 h2 h3;exact⟨b,o,hA,hS,lt_of_cell h0,h0,h1,h2,h3⟩
theorem aj.at_d {xs:List ig} {A:Option Addr} {n c:Nat} (h:aj deedE w S (.slice A n c) xs) {i:Nat} {x:ig} (hx:xs[i]?=some x):
  ∃b o,A=some ⟨b,o,none⟩∧S b∧b<w.heap.size∧w.cell? ⟨b,o+i*4,none⟩=some (.int .i64 x.kind)∧w.cell? ⟨b,o+i*4+1,none⟩=some (.int .i64 x.cK)∧
   w.cell? ⟨b,o+i*4+2,none⟩=some (.int .i64 x.n)∧w.cell? ⟨b,o+i*4+3,none⟩=some (.int .i64 x.m):=by
 obtain⟨b,o,cs,hA,hS,_,rfl,hc⟩:=h.at_ hx;have h0:=hc 0 _ rfl;have h1:=hc 1 _ rfl;have h2:=hc 2 _ rfl;have h3:=hc 3 _ rfl;simp only[deedE,Nat.add_zero] at h0 h1 h2 h3;exact⟨b,o,hA,hS,lt_of_cell h0,h0,h1,h2,h3⟩
theorem aj.at_w {xs:List Rw} {A:Option Addr} {n c:Nat} (h:aj rwE w S (.slice A n c) xs) {i:Nat} {x:Rw} (hx:xs[i]?=some x):
  ∃b o,A=some ⟨b,o,none⟩∧S b∧b<w.heap.size∧w.cell? ⟨b,o+i*4,none⟩=some (.int .i64 x.kind)∧w.cell? ⟨b,o+i*4+1,none⟩=some (.int .i64 x.a)∧
   w.cell? ⟨b,o+i*4+2,none⟩=some (.int .i64 x.b)∧w.cell? ⟨b,o+i*4+3,none⟩=some (.int .i64 x.c)∧
   (Lit.int .i64 x.kind).wf=true∧(Lit.int .i64 x.a).wf=true∧(Lit.int .i64 x.b).wf=true∧(Lit.int .i64 x.c).wf=true:=by
 obtain⟨b,o,cs,hA,hS,_,⟨rfl,hw⟩,hc⟩:=h.at_ hx;have h0:=hc 0 _ rfl;have h1:=hc 1 _ rfl;have h2:=hc 2 _ rfl;have h3:=hc 3 _ rfl;simp only[rwE,Nat.add_zero] at h0 h1 h2 h3;exact⟨b,o,hA,hS,lt_of_cell h0,h0,h1,h2,h3,hw⟩
theorem aj.at_a {xs:List Ac} {A:Option Addr} {n c:Nat} (h:aj acE w S (.slice A n c) xs) {i:Nat} {x:Ac} (hx:xs[i]?=some x):
  ∃b o Bo co Br cr Bb cb,A=some ⟨b,o,none⟩∧S b∧b<w.heap.size∧w.cell? ⟨b,o+i*8,none⟩=some (.int .i64 x.kind)∧w.cell? ⟨b,o+i*8+1,none⟩=some (.int .i64 x.parent)∧
   w.cell? ⟨b,o+i*8+2,none⟩=some (.int .i64 x.heap.most)∧w.cell? ⟨b,o+i*8+3,none⟩=some (.slice Bo x.heap.ah.length co)∧
   w.cell? ⟨b,o+i*8+4,none⟩=some (.slice Br x.regs.length cr)∧w.cell? ⟨b,o+i*8+5,none⟩=some (.int .i64 x.pc)∧
   w.cell? ⟨b,o+i*8+6,none⟩=some (.slice Bb x.box.length cb)∧w.cell? ⟨b,o+i*8+7,none⟩=some (.int .i64 x.fin)∧
   aj obE w S (.slice Bo x.heap.ah.length co) x.heap.ah∧aj vE w S (.slice Br x.regs.length cr) x.regs∧aj vE w S (.slice Bb x.box.length cb) x.box:=by
 obtain⟨b,o,cs,hA,hS,_,⟨ho,vr,vb,rfl,h8,h9,h10⟩,hc⟩:=h.at_ hx;obtain⟨Bo,co,rfl,_⟩:=h8.form;obtain⟨Br,cr,rfl,_⟩:=h9.form;obtain⟨Bb,cb,rfl,_⟩:=h10.form;have h0:=hc 0 _ rfl;have h1:=hc 1 _ rfl;have h2:=hc 2 _ rfl;have h3:=hc 3 _ rfl;have h4:=hc 4 _ rfl;have h5:=hc 5 _ rfl;have h6:=hc 6 _ rfl;have h7:=hc 7 _ rfl;simp only[acE,Nat.add_zero] at h0 h1 h2 h3 h4 h5 h6 h7;exact⟨b,o,Bo,co,Br,cr,Bb,cb,hA,hS,lt_of_cell h0,h0,h1,h2,h3,h4,h5,h6,h7,h8,h9,h10⟩
end
end
section
open Go.ChangeShapes Go.WideShapes Go.ChangeAt Go.RowKit Go.Deep
def Opens {α:Type} (E:El α) (P:Program) (t:TypeId):Prop:=
 ∀{H:Type} (enc:TypeId×Value→H) (w:World) (base:Nat) (spare:Nat→Bool) (held:Bool) (n:Nat) (cs:List Value) (d:DataW H) (pl:List MemPlace),
  DataW.trod enc P w base spare held n t cs=some (d,pl)→(∀x∈d.weights P t,x≤reachBytes)→∃x,cs.length=E.size∧E.rd w (fun _=>True) cs x
theorem o9 {H:Type} {P:Program} {e:TypeId} {x:Nat}:∀{l:List (DataW H)} {d:DataW H},d∈l→x∈d.weights P e→x∈DataW.weightsAll P e l
 | [],_,h,_=>by cases h
 |y::r,d,h,hx=>by
  rw[DataW.weightsAll,List.mem_append];rcases List.mem_cons.1 h with rfl|h
  ·exact .inl hx
  ·exact .inr (o9 h hx)
theorem list_of {α:Type} {Q:Nat→α→Prop}:∀n:Nat,(∀i,i<n→∃x,Q i x)→∃xs:List α,xs.length=n∧∀i x,xs[i]?=some x→Q i x
 |0,_=>⟨[],rfl,fun i x h=>by simp at h⟩
 |n+1,h=>by
  obtain⟨xs,hl,hx⟩:=list_of n (fun i hi=>h i (by omega));obtain⟨y,hy⟩:=h n (by omega);refine⟨xs++[y],by simp[hl],fun i x hix=>?_⟩;rcases Nat.lt_or_ge i n with hlt|hge
  ·rw[List.getElem?_append_left (by omega)] at hix;exact hx i x hix
  ·rw[List.getElem?_append_right (by omega)] at hix;have:i=n:=by
    rcases Nat.eq_or_lt_of_le hge with h|h
    ·exact h.symm
    ·rw[List.getElem?_eq_none (by simp;omega)] at hix;cases hix
   subst this;simp[hl] at hix
   rw[←hix];exact hy
theorem opens_sl {α:Type} {E:El α} {P:Program} {t e:TypeId} (hE:Opens E P e) (ht:P.underlying t=some (.slice e)) (hC:P.cellsOf e=E.size) (hB:P.bytesOf e=E.bytes) (hs:0<E.size):Opens (slE E hs) P t:=by
 intro H enc w base spare held n cs d pl h hw;rcases open_slice ht h with⟨rfl,hx⟩|⟨a,len,cap,m,n',D,Pl,rfl,_,hl,hm,hmm,hx,hi⟩
 ·exact⟨[],rfl,_,rfl,none,0,rfl,Nat.le_refl _,Nat.zero_le _,by simp,fun h=>absurd rfl h⟩
 ·simp only[Prod.mk.injEq] at hx;obtain⟨rfl,-⟩:=hx;simp only[DataW.weights,ht] at hw;have hb:=hw _ (List.mem_cons_self ..);simp only[List.length_map,List.length_range,hB] at hb;have hlm:len≤m:=by rw[hmm];split<;>omega
  have hel:∀i,i<len→∃x cs',cs'.length=E.size∧E.rd w (fun _=>True) cs' x∧w.cells? base (a.add (i*P.cellsOf e)) (P.cellsOf e)=some cs':=by
   intro i hil;obtain⟨cs',hc,htr⟩:=hi i (by omega);obtain⟨x,hcl,hx⟩:=hE enc w base spare held n' cs' (D i) (Pl i) htr (fun y hy=>hw y (List.mem_cons_of_mem _ (List.mem_append_left _ (o9 (List.mem_map.2 ⟨i,List.mem_range.2 hil,rfl⟩) hy))));exact⟨x,cs',hcl,hx,hc⟩
  obtain⟨xs,hxl,hxs⟩:=list_of len hel;subst hxl;refine⟨xs,rfl,_,rfl,some a,cap,rfl,hl,hm,by unfold reachBytes at hb;have h2:xs.length*E.bytes≤(xs.length+(m - xs.length))*E.bytes:=Nat.mul_le_mul_right _ (Nat.le_add_right _ _);omega,fun hne=>?_⟩;have h0:0<xs.length:=List.length_pos_iff.2 hne;obtain⟨x0,cs0,hc0,_,h0c⟩:=hel 0 h0;obtain⟨_,_,hat0⟩:=World.cells?_some h0c;have hsp:a.spot=none:=by
   have hv:cs0[0]?=some (cs0[0]'(by omega)):=zD (by omega);have h1:=hat0 0 (by omega);rw[hv] at h1;simp only[Nat.zero_mul] at h1
   cases hs:a.spot with
   |none=>rfl
   |some q=>simp[World.cell?,Addr.add,hs] at h1;split at h1<;>simp at h1
  refine⟨a.block,a.off,?_,trivial,fun i x hx=>?_⟩
  ·cases a;simp_all
  obtain⟨cs',hcl,hrd,hc⟩:=hxs i x hx;obtain⟨_,hlen,hat⟩:=World.cells?_some hc;refine⟨cs',hcl,hrd,fun j u hu=>?_⟩;have hj:j<cs'.length:=(zE.1 hu).1;have h1:=hat j (by omega);rw[hu] at h1;rw[←h1,add_add,hC];congr 1
  cases a
  simp_all [Addr.add]
  split<;>simp_all<;>omega
theorem trod_fields {H:Type} {enc:TypeId×Value→H} {P:Program} {w:World} {base:Nat} {spare:Nat→Bool} {held:Bool} {n:Nat} {t:TypeId} {fs:Array Field} {cs:List Value} {d:DataW H} {pl:List MemPlace}
  (ht:P.underlying t=some (.struct fs)) (hone:oneCellFields P fs=true) (hC:P.cellsOf t=fs.size) (h:DataW.trod enc P w base spare held n t cs=some (d,pl)):
  ∃(ds:List (DataW H)) (m:Nat),d= .agg ds∧cs.length=fs.size∧ds.length=fs.size∧
   ∀(i:Nat) (f:Field),fs[i]?=some f→∃v e pl',cs[i]?=some v∧ds[i]?=some e∧DataW.trod enc P w base spare held m f.type [v]=some (e,pl'):=by
 obtain⟨xs,m,_,hx,hl,hxl,hf⟩:=DataW.trod_struct ht h;simp only[Prod.mk.injEq] at hx;obtain⟨rfl,-⟩:=hx;refine⟨xs.map (·.1),m,rfl,hl.trans hC,by simpa using hxl,fun i f hi=>?_⟩;obtain⟨ho,hk⟩:=hone_of hone i f hi;have hil:i<fs.size:=(Array.getElem?_eq_some_iff.1 hi).1;have h1:=hf i f hi;have hv:cs[i]?=some (cs[i]'(by omega)):=zD (by omega);have hy:xs[i]?=some (xs[i]'(by omega)):=zD (by omega);rw[ho,hk,hy] at h1;have hone':(cs.drop i).take 1= [cs[i]'(by omega)]:=by
  rw[List.drop_eq_getElem_cons (by omega)];rfl
 rw[hone'] at h1;exact⟨_,_,_,hv,by rw[List.getElem?_map,hy];rfl,h1⟩
theorem ow {H:Type} {P:Program} {x:Nat}:∀{ts:List TypeId} {ds:List (DataW H)} {i:Nat} {t:TypeId} {d:DataW H},ts[i]?=some t→ds[i]?=some d→x∈d.weights P t→x∈DataW.weightsEach P ts ds
 | [],_,i,t,d,h,_,_=>by simp at h
 |_::_,[],i,t,d,_,h,_=>by simp at h
 |u::ts,e::ds,0,t,d,h,h',hx=>by
  simp at h h'
  subst h;subst h';rw[DataW.weightsEach,List.mem_append];exact .inl hx
 |u::ts,e::ds,i+1,t,d,h,h',hx=>by
  rw[DataW.weightsEach,List.mem_append];exact .inr (ow (by simpa using h) (by simpa using h') hx)
section
variable {H:Type} {enc:TypeId×Value→H} {P:Program}
theorem pX {W W':World} (hl:laidOutB P=true) (hb:Below W.heap.size W W') (sp:Nat→Bool):
  ∀(ts:List TypeId) (vs:List Value) (ds:List (DataW H)) (p:List MemPlace),(∀t∈ts,P.readableRec t=true∧t<P.types.size)→
   DataW.TrodAll enc P W 0 (fun _=>true) true ts vs ds p→(∀x∈p,x.block<W.heap.size)→(∀x∈p,sp x.block=true)→DataW.TrodAll enc P W' 0 sp true ts vs ds p
 | [],[],[],_,_,h,_,_=>h
 | [],[],_::_,_,_,h,_,_=>h.elim
 | [],_::_,_,_,_,h,_,_=>by cases h
 |_::_,[],_,_,_,h,_,_=>by cases h
 |_::_,_::_,[],_,_,h,_,_=>by cases h
 |t::ts,v::vs,d::ds,q,hts,h,hlt,hsp=>by
  obtain⟨p1,q1,h1,h2,rfl⟩:=h;obtain⟨hr,hrow⟩:=hts t (List.mem_cons_self ..);exact⟨p1,q1,WideElems.Trod_stays hl hr hrow h1 (fun x hx=>hb.same (hlt x (List.mem_append_left _ hx))) (fun x hx=>hsp x (List.mem_append_left _ hx)),
   pX hl hb sp ts vs ds q1 (fun u hu=>hts u (List.mem_cons_of_mem _ hu)) h2 (fun x hx=>hlt x (List.mem_append_right _ hx)) (fun x hx=>hsp x (List.mem_append_right _ hx)),rfl⟩
theorem law_post {f:Func} {s:ChangeSpec} {W W':World} {args:Array Value} {ds:List (DataW H)} {before:List MemPlace} {tb:TypeId} (hl:laidOutB P=true)
  (hbool:P.underlying tb=some .bool) (hres:f.resultTypes= #[tb]) (hts:∀t∈f.params.toList,P.readableRec t=true∧t<P.types.size) (hv:s.vars= [])
  (hW:DataW.Whole enc P f.params.toList s.vars false W args.toList ds [] before) (hs:s.fn H (ds++[])= {results:=[.lit (.bool true)],args:=ds}) (hb:Below W.heap.size W W'):
  s.post enc P f false true false false W args (.bool true) W':=by
 have hlt:∀p∈before,p.block<W.heap.size:=fun p hp=>hW.lt p hp;obtain⟨p,q,hA,hV,hpq,hz,hn⟩:=hW;rw[hv] at hV;have hq:q= []:=hV;subst hq;rw[List.append_nil] at hpq;subst hpq;refine⟨ds,[],before,[],before,[],⟨before,[],hA,by rw[hv];rfl,by simp,hz,hn⟩,?_,?_,?_,World.keptBut_mono (fun p hp=>⟨hp,.inr (.inl hp)⟩) (hb.frame (· ∈before)),fun h=>by cases h⟩
 ·rw[hs,hres];exact trodAll_mk1 (shut_bool hbool true)
 ·rw[hs];exact pX hl hb _ _ _ _ _ hts hA hlt (fun x hx=>by simpa using hlt x hx)
 ·rw[hs,hv];exact rfl
end
theorem facts_of {P:Program} {f:FuncId} {fn:Func} {s:ChangeSpec} {c:OpenClaim}
  (k1:c.wf (OpenSpec.ofChange s)=true)
  (k2:laidOutB P=true)
  (k3:mapsRowed P=true)
  (k4:fn.params.all (P.readableRec ·)=true)
  (k5:namedTie P c.named s.vars=true)
  (k6:(c.stops==[])=true)
  (k7:(P.stops==[])=true)
  (k8:(c.knobs==[])=true)
  (k9:(P.stopKnobs==[])=true)
  (k10:(c.inPlace==P.inPlace f)=true)
  (k11:(c.unfollowed==P.unfollowed f)=true)
  (k12:(c.recurses==P.recurses f)=true)
  (k13:(c.named==P.varsNamed f)=true)
  (k14:(c.maps==(fn.params.toList++s.plain.varTypes P).any (P.mapsRec ·))=true)
  (k15:(c.ifaces==(fn.params.toList++s.plain.varTypes P).any (P.ifacesRec ·))=true)
  (k16:(c.mapsOut==P.mapsAmong fn.resultTypes.toList)=true)
  (k17:(c.loops==(fn.params.toList++s.plain.varTypes P).any (P.loopsFrom ·))=true)
  (k18:(c.wideKeys==(fn.params.toList++s.plain.varTypes P++fn.resultTypes.toList).any (P.wideKeysFrom ·))=true)
  (k19:s.vars.all (P.varReadable ·)=true)
  (k20:fn.resultTypes.all (fun t=>P.readableRec t&&decide (t<P.types.size))=true)
  (k21:(c.ifacesOut==fn.resultTypes.toList.any (P.ifacesRec ·))=true)
  (k22:(c.loopsOut==fn.resultTypes.toList.any (P.loopsFrom ·))=true)
  (k23:(c.plainKeys==P.plainKeys)=true)
  (k24:c.shortTexts.isNone=true)
  (k25:P.stopsHeard=true)
  (k26:P.mayEnter=true)
  (k27:(c.lifted==P.liftsFinal)=true)
  (k28:(P.make==some c.make)=true)
  (k29:c.domain= []∧c.kinds= [])
  (k30:(c.pinned==c.pinnedBy)=true)
  (k31:(c.veiled==(fn.params.toList++s.plain.varTypes P++fn.resultTypes.toList).any (P.veiledRec ·))=true)
  (k32:c.veiledFits P fn.params.toList (fn.params.toList++s.plain.varTypes P++fn.resultTypes.toList)=true):joinedFacts P f fn s c=true:=by
 unfold joinedFacts;rw[k1,k2,k3,k4,k5,k6,k7,k8,k9,k10,k11,k12,k13,k14,k15,k16,k17,k18,k19,k20,k21,k22,k23,k24,k25,k26,k27,k28,k29.1,k29.2,k30,k31,k32];rfl
theorem jw:∀(a b:List Char),(a.all fun c=>c !=Char.ofNat 32)=true→wordsSigns (a++Char.ofNat 32::b)=a::wordsSigns b
 | [],b,_=>rfl
 |c::a,b,h=>by
  simp only[List.all_cons,Bool.and_eq_true] at h;have ih:=jw a b h.2;have hc:c≠Char.ofNat 32:=(by simpa using h.1);rw[List.cons_append];conv=>lhs;unfold wordsSigns
  split
  ·rename_i he;cases he
  ·rename_i r he
   injection he with h1 _
   exact absurd h1 hc
  ·rename_i d r hne he
   injection he with h1 h2
   subst h1 h2;rw[ih]
end
end Go.Proofs.YtdmocjnjbihloaaDoor
