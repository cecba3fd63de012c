/- What bytes are read as, in plain Lean; what is read is written so again. No condition; no run. A program is read as it was written; cut short it is not; in plain Lean. No condition; no run. The walks of the statements' own comparisons: data that are the same are told to be. No condition beside what is read. The walks of heap.New and of the document's answer to it. No condition. The walks of the numbers of a program's bytes: code.number and the document's sevens. Condition: a number of 41 bits, a slice of the call's own. The walks of the reader of bytes: a byte, a number. No condition beside what is read. What a reader of programs answers, step by step; in plain Lean. No condition; no run. -/
import Derived.Test.YtdmocjnjbihloaaDoorSpecE
import Derived.Test.YtdmocjnjbihloaaDoorHeapB
import Derived.Test.YtdmocjnjbihloaaDoorActCopy
import Derived.Maps.AppendAt
import Derived.Deep.CutRange
import Derived.Test.YtdmocjnjbihloaaDoorSt
namespace Go.Proofs.YtdmocjnjbihloaaDoor
section
section
def AllB (l:List Int):Prop:=∀c∈l,0≤c∧c<256
theorem AllB.tail {c:Int} {l:List Int} (h:AllB (c::l)):AllB l:=fun x hx=>h x (List.mem_cons_of_mem _ hx)
end
section
def pre {α:Type} (is:List α):Except Int (List α×List Int)→Except Int (List α×List Int)
 | .error e=> .error e
 | .ok (js,l)=> .ok (is++js,l)
structure Reads {α:Type} (f:List Int→Except Int (α×List Int)) (B:List Int) (a:α):Prop where
 all:∀l,f (B++l)= .ok (a,l)
 cut:∀c,c<B.length→f (B.take c)= .error 5
def bindD {α β:Type} (g:List Int→Except Int (α×List Int)) (h:α→List Int→Except Int (β×List Int)) (l:List Int):Except Int (β×List Int):=
 match g l with
 | .error e=> .error e
 | .ok (b,l)=>h b l
def retD {α:Type} (a:α) (l:List Int):Except Int (α×List Int):= .ok (a,l)
def byteD:List Int→Except Int (Int×List Int)
 | []=> .error 5
 |c::l=> .ok (c,l)
theorem Reads.ret {α:Type} (a:α):Reads (retD a) [] a:=⟨fun _=>rfl,fun c h=>absurd h (Nat.not_lt_zero c)⟩
theorem Reads.byte (c:Int):Reads byteD [c] c:=⟨fun _=>rfl,fun k h=>by
 obtain rfl:k=0:=(by simpa using h);rfl⟩
theorem Reads.bind {α β:Type} {g:List Int→Except Int (α×List Int)} {h:α→List Int→Except Int (β×List Int)} {B C:List Int} {a:α} {b:β} (h1:Reads g B a) (h2:Reads (h a) C b):Reads (bindD g h) (B++C) b:=by
 refine⟨fun l=>?_,fun c hc=>?_⟩
 ·unfold bindD;rw[List.append_assoc,h1.all];exact h2.all l
 ·unfold bindD;by_cases hcb:c<B.length
  ·rw[List.take_append_of_le_length (by omega),h1.cut c hcb]
  ·have e:(B++C).take c=B++C.take (c - B.length):=(by rw[List.take_append,List.take_of_length_le (by omega)]);rw[e,h1.all];exact h2.cut _ (by simp at hc;omega)
theorem Reads.of {α:Type} {f g:List Int→Except Int (α×List Int)} {B:List Int} {a:α} (h:Reads g B a) (e:∀l,f l=g l):Reads f B a:=
 ⟨fun l=>(e _).trans (h.all l),fun c hc=>(e _).trans (h.cut c hc)⟩
end
end
section
section
section
open Go.RowKit
theorem below_drewN {B:Nat} {a w:World} (h:Below B a w) (n:Nat):Below B a (w.drewN n):=⟨h.os,h.tape,h.output,h.size,h.block⟩
end
section
open Go.RowKit
def newM (most:Int):Int:=if 0≤most∧most≤60 then most else 0
def newE (most:Int):Int:=if 0≤most∧most≤60 then 0 else 2
set_option maxHeartbeats 400000 in
theorem new_any (most:Int) (w:World):
  Calls Tryd.prog 48 #[.int .i64 most] w fun e w'=>e= .returned (.tuple #[.agg #[.int .i64 (newM most),.slice none 0 0],.int .i64 (newE most)])∧Below w.heap.size w w':=by
 by_cases h:0≤most∧most≤60
 ·obtain⟨h1,h2⟩:=h;have e1:newM most=most:=if_pos ⟨h1,h2⟩;have e2:newE most=0:=if_pos ⟨h1,h2⟩;rw[e1,e2];clear e1 e2;go_enter Tryd.func48,Tryd.ntmps48
  go_wp2
  exact bodyPost_ret (v:= .tuple #[.agg #[.int .i64 most,.slice none 0 0],.int .i64 0]) (by simp[results,Tryd.results48,go_sem]) rfl ⟨rfl,(Below.refl _ _).alloc (Nat.le_refl _) _⟩
 ·have e1:newM most=0:=if_neg h;have e2:newE most=2:=if_neg h;rw[e1,e2];clear e1 e2;rcases (by omega:most<0∨(0≤most∧60<most)) with h1|h1
  all_goals
   clear h;go_enter Tryd.func48,Tryd.ntmps48
   go_wp2
   exact bodyPost_ret (v:= .tuple #[.agg #[.int .i64 0,.slice none 0 0],.int .i64 2]) (by simp[results,Tryd.results48,go_sem]) rfl ⟨rfl,(Below.refl _ _).alloc (Nat.le_refl _) _⟩
theorem aj.nil {α:Type} {E:El α} {w:World} {S:Nat→Prop}:aj E w S (.slice none ([]:List α).length 0) []:=
 ⟨none,0,rfl,Nat.le_refl _,Nat.zero_le _,by simp,fun h=>absurd rfl h⟩
end
end
section
open Go.RowKit
structure Grew (w w':World) (v v':Value):Prop where
 os:w'.os=w.os
 tape:w'.tape=w.tape
 output:w'.output=w.output
 keep:∀b,b<w.heap.size→v.ownBlock≠some b→w'.heap[b]?=w.heap[b]?
 size:w.heap.size≤w'.heap.size
 at_:∀g,v'.ownBlock=some g→v.ownBlock=some g∨w.heap.size≤g
theorem Grew.refl {w:World} {v:Value}:Grew w w v v:=⟨rfl,rfl,rfl,fun _ _ _=>rfl,Nat.le_refl _,fun _ h=> .inl h⟩
theorem Grew.trans {w w' w2:World} {v v' v2:Value} (h:Grew w w' v v') (h':Grew w' w2 v' v2):Grew w w2 v v2:=
 ⟨h'.os.trans h.os,h'.tape.trans h.tape,h'.output.trans h.output,fun b hb hn=>(h'.keep b (Nat.lt_of_lt_of_le hb h.size) (fun e=>(h.at_ b e).elim hn (fun e=>absurd hb (Nat.not_lt.2 e)))).trans (h.keep b hb hn),Nat.le_trans h.size h'.size,
  fun g hg=>(h'.at_ g hg).elim (h.at_ g) (fun e=> .inr (Nat.le_trans h.size e))⟩
theorem Grew.below {w w':World} {v v':Value} (h:Grew w w' v v') {base:Nat} (hb:base≤w.heap.size) (hv:∀g,v.ownBlock=some g→base≤g):Below base w w':=
 ⟨h.os,h.tape,h.output,h.size,fun k hk=>h.keep k (by omega) (fun e=>by have:=hv k e;omega)⟩
end
section
open Go.RowKit
theorem aj.next {w:World} {S:Nat→Prop} {b o n c:Nat} {x:UInt8} {l:List UInt8} (h:aj bE w S (.slice (some ⟨b,o,none⟩) n c) (x::l)):aj bE w S (.slice (some ⟨b,o+1,none⟩) (n - 1) (c - 1)) l:=by
 obtain⟨A',c',hv,h1,h2,h3,h4⟩:=h
 cases hv
 obtain⟨b',o',hb,hS,hr⟩:=h4 (by simp);injection hb with hb
 injection hb with e1 e2
 subst e1 e2;refine⟨some ⟨b,o+1,none⟩,c - 1,by simp,by simp at h1;omega,by omega,by simp[bE] at h3 ⊢;omega,fun _=>⟨b,o+1,rfl,hS,fun j y hy=>?_⟩⟩;obtain⟨cs,g1,g2,g3⟩:=hr (j+1) y (by simpa using hy);refine⟨cs,g1,g2,fun k u hu=>?_⟩;have:=g3 k u hu;simp only[bE,Nat.mul_one] at this ⊢;rw[←this];congr 2
 omega
structure Only (g:Nat) (w w':World):Prop where
 os:w'.os=w.os
 tape:w'.tape=w.tape
 output:w'.output=w.output
 size:w.heap.size≤w'.heap.size
 block:∀b,b<w.heap.size→b≠g→w'.heap[b]?=w.heap[b]?
theorem Only.refl (g:Nat) (w:World):Only g w w:=⟨rfl,rfl,rfl,Nat.le_refl _,fun _ _ _=>rfl⟩
theorem Only.trans {g:Nat} {w w' w2:World} (h:Only g w w') (h':Only g w' w2):Only g w w2:=
 ⟨h'.os.trans h.os,h'.tape.trans h.tape,h'.output.trans h.output,Nat.le_trans h.size h'.size,fun b hb hne=>(h'.block b (Nat.lt_of_lt_of_le hb h.size) hne).trans (h.block b hb hne)⟩
theorem Only.set {g:Nat} {w w':World} (h:Only g w w') (k:Nat) (u:Value):Only g w (w'.setCell ⟨g,k,none⟩ u):=
 ⟨h.os,h.tape,h.output,by simpa using h.size,fun b hb hne=>(Below.heap_setCell _ _ _ _ hne).trans (h.block b hb hne)⟩
theorem Only.drew {g:Nat} {w w':World} (h:Only g w w'):Only g w w'.drew:=⟨h.os,h.tape,h.output,h.size,h.block⟩
theorem Only.rd {g:Nat} {w w':World} (h:Only g w w') {S:Nat→Prop} (hg:¬S g) {v:Value} {l:List UInt8} (hr:aj bE w S v l):aj bE w' S v l:=
 hr.keep (by decide) (fun b hb hS=>⟨hS,h.block b hb (fun e=>hg (e ▸ hS))⟩)
theorem St.only {B:Nat} {w0 w w':World} {R:List Res} (h:St B w0 w R) (i:Nat) {g:Nat} {cs cs':Array Value} {t:TypeId} (hi:R[i]?=some (.blk g cs t)) (ho:Only g w w') (hb:w'.heap[g]?=some (.cells cs' t (0,0))):
  St B w0 w' (R.set i (.blk g cs' t))∧au w R w' (R.set i (.blk g cs' t)):=
 h.turn i hi (.blk g cs' t) ho.size ho.os ho.tape ho.output (fun b hb hne=>ho.block b hb (fun e=>hne e)) hb (fun _ hb=> .inl hb)
end
section
open Go.RowKit
def pgE:El (List Ins):=slE eQ (by decide)
end
end
end Go.Proofs.YtdmocjnjbihloaaDoor
