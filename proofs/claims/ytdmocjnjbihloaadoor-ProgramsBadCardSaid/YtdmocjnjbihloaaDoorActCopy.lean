/- The blocks of a call's own variables: what each holds, from call to call. No condition. A map of the call's own, keyed by integers, whose elements are plain: what it holds is told by a function. No condition. The walk of actor.Copy: the same world, in memory of its own. No condition beside what is read. -/
import Derived.Test.YtdmocjnjbihloaaDoorCloneH
import Derived.Test.YtdmocjnjbihloaaDoorRegion
import Derived.Maps.Own
import Derived.Maps.OwnOps
import Derived.Maps.Views
import Derived.Maps.AppendAt
namespace Go.Proofs.YtdmocjnjbihloaaDoor
section
open Go.RowKit
def dD (w:World) (l:List (Nat×Array Value×TypeId)):Prop:=∀e∈l,w.heap[e.1]?=some (.cells e.2.1 e.2.2 (0,0))
def LocRules (w:World):List (Nat×Array Value×TypeId)→Prop
 | []=>True
 |e::r=>(∀i:Nat,w.cell? ⟨e.1,i,none⟩=e.2.1[i]?)∧(∀i:Nat,w.frozen? ⟨e.1,i,none⟩=false)∧LocRules w r
section
variable {w w' w2:World} {l:List (Nat×Array Value×TypeId)}
theorem lK {b:Nat} {o:Obj} (h:w.heap[b]?=some o):b<w.heap.size:=by
 rcases Nat.lt_or_ge b w.heap.size with hl|hge
 ·exact hl
 ·rw[Array.getElem?_eq_none hge] at h;cases h
theorem dD.nil:dD w []:=fun _ h=>by cases h
theorem dD.new (h:dD w l) {n:Nat} {cs:Array Value} {t:TypeId} (hn:n=w.heap.size):dD (w.alloc (.cells cs t)) ((n,cs,t)::l):=fun e he=>by
 rcases List.mem_cons.1 he with rfl|he
 ·exact gG hn
 ·exact nT (h e he)
theorem dD.after (h:dD w l) (hb:Below w.heap.size w w'):dD w' l:=fun e he=>(hb.block _ (lK (h e he))).trans (h e he)
theorem dD.grown (h:dD w l) {row:Option Nat} (hg:w.grownBy w' row) (hr:∀e∈l,row≠some e.1):dD w' l:=fun e he=>(hg.block _ (lK (h e he)) (hr e he).symm).trans (h e he)
theorem dD.alloc (h:dD w l) (o:Obj):dD (w.alloc o) l:=fun e he=>nT (h e he)
theorem dD.drew (h:dD w l):dD w.drew l:=h
theorem dD.keep (h:dD w l) (hk:∀e∈l,w'.heap[e.1]?=w.heap[e.1]?):dD w' l:=fun e he=>(hk e he).trans (h e he)
theorem dD.far (h:dD w l) {a:Addr} (ha:∀e∈l,e.1≠a.block) {u:Value}:dD (w.setCell a u) l:=fun e he=>(Below.heap_setCell _ _ _ _ (ha e he)).trans (h e he)
theorem dD.tail {e:Nat×Array Value×TypeId} (h:dD w (e::l)):dD w l:=fun x hx=>h x (List.mem_cons_of_mem _ hx)
theorem dD.head {e:Nat×Array Value×TypeId} (h:dD w (e::l)):w.heap[e.1]?=some (.cells e.2.1 e.2.2 (0,0)):=h e (List.mem_cons_self ..)
theorem dD.cons {e:Nat×Array Value×TypeId} (h0:w.heap[e.1]?=some (.cells e.2.1 e.2.2 (0,0))) (h:dD w l):dD w (e::l):=fun x hx=>by
 rcases List.mem_cons.1 hx with rfl|hx
 ·exact h0
 ·exact h x hx
theorem dD.keep2 {a b c:Nat×Array Value×TypeId} (h:dD w [a,b,c]):dD w [a,b]:=fun x hx=>h x (by simp at hx ⊢;rcases hx with rfl|rfl<;>simp)
theorem dD.at_ (h:dD w l) (i:Nat) {e:Nat×Array Value×TypeId} (he:l[i]?=some e):w.heap[e.1]?=some (.cells e.2.1 e.2.2 (0,0)):=h e (zF he)
theorem dD.lt (h:dD w l) (i:Nat) {e:Nat×Array Value×TypeId} (he:l[i]?=some e):e.1<w.heap.size:=lK (h.at_ i he)
theorem dD.set (h:dD w l) (i:Nat) {b:Nat} {cs:Array Value} {t:TypeId} (he:l[i]?=some (b,cs,t)) (hd:∀(j:Nat) (e:Nat×Array Value×TypeId),l[j]?=some e→j≠i→e.1≠b) (k:Nat) (u:Value):
  dD (w.setCell ⟨b,k,none⟩ u) (l.set i (b,cs.setIfInBounds k u,t)):=fun e hm=>by
 obtain⟨j,hj⟩:=List.getElem?_of_mem hm;rw[List.getElem?_set] at hj;by_cases hij:i=j
 ·subst hij;have hl:i<l.length:=(zE.1 he).1;simp[hl] at hj
  subst hj;exact jK (h.at_ i he) u
 ·simp[hij] at hj
  exact(Below.heap_setCell _ _ _ _ (hd j e hj (Ne.symm hij))).trans (h.at_ j hj)
theorem dD.put (h:dD w l) (i:Nat) {b:Nat} {cs:Array Value} {t:TypeId} (k:Nat) (u:Value) (he:l[i]?=some (b,cs,t)) (hd:(l.map (·.1)).Nodup):
  dD (w.setCell ⟨b,k,none⟩ u) (l.set i (b,cs.setIfInBounds k u,t)):=by
 refine h.set i he (fun j e hj hne heq=>?_) k u;have h1:(l.map (·.1))[j]?=some e.1:=(by rw[List.getElem?_map,hj];rfl);have h2:(l.map (·.1))[i]?=some b:=(by rw[List.getElem?_map,he];rfl);obtain⟨l1,g1⟩:=zE.1 h1;obtain⟨l2,g2⟩:=zE.1 h2;exact hne ((List.getElem_inj hd).1 (by rw[g1,g2,heq]))
theorem dD.set2 (h:dD w l) (i:Nat) {b:Nat} {cs:Array Value} {t:TypeId} (u v:Value) (he:l[i]?=some (b,cs,t)) (hs:cs.size=2) (hd:(l.map (·.1)).Nodup):
  dD ((w.setCell ⟨b,0,none⟩ u).setCell ⟨b,1,none⟩ v) (l.set i (b,#[u,v],t)):=by
 have hl:i<l.length:=(zE.1 he).1;have hd':∀(j:Nat) (e:Nat×Array Value×TypeId),l[j]?=some e→j≠i→e.1≠b:=fun j e hj hne heq=>by
  have h1:(l.map (·.1))[j]?=some e.1:=(by rw[List.getElem?_map,hj];rfl);have h2:(l.map (·.1))[i]?=some b:=(by rw[List.getElem?_map,he];rfl);obtain⟨l1,g1⟩:=zE.1 h1;obtain⟨l2,g2⟩:=zE.1 h2;exact hne ((List.getElem_inj hd).1 (by rw[g1,g2,heq]))
 have h1:=h.set i he hd' 0 u;have h2:=h1.set i (b:=b) (cs:=cs.setIfInBounds 0 u) (t:=t) (by simp[hl]) (fun j e hj hne=>by
  rw[List.getElem?_set_ne (Ne.symm hne)] at hj;exact hd' j e hj hne) 1 v
 rw[List.set_set] at h2;have hc:(cs.setIfInBounds 0 u).setIfInBounds 1 v= #[u,v]:=by
  match cs,hs with
  |⟨[x,y]⟩,_=>rfl
 rw[hc] at h2;exact h2
theorem dD.rules:∀{l:List (Nat×Array Value×TypeId)},dD w l→LocRules w l
 | [],_=>trivial
 |e::r,h=>⟨fun i=>by
   have:=h e (List.mem_cons_self ..);simp[World.cell?,this],fun i=>by
   have:=h e (List.mem_cons_self ..);simp[World.frozen?,this],dD.rules (fun x hx=>h x (List.mem_cons_of_mem _ hx))⟩
theorem fF {n b:Nat} {x y:Value} (h:Below n w w') (hb:n≤b) {i j:Nat}:Below n w ((w'.setCell ⟨b,i,none⟩ x).setCell ⟨b,j,none⟩ y):=(h.setCell hb _).setCell hb _
theorem bM (h:Below w.heap.size w w') (h':Below w'.heap.size w' w2):Below w.heap.size w w2:=h.trans (h'.mono h.size)
theorem aj.new {α:Type} {E:El α} {xs:List α} {v:Value} {n:Nat} (h:aj E w (fun b=>n≤b) v xs) (hs:0<E.size) {m:Nat} (hn:m≤n):aj E w (fun b=>m≤b) v xs:=
 h.keep hs (fun _ _ hS=>⟨Nat.le_trans hn hS,rfl⟩)
end
def RdH (w:World) (base:Nat) (v:Value) (h:Hp):Prop:=∃A c,v= .agg #[.int .i64 h.most,.slice A h.ah.length c]∧aj obE w (fun b=>base≤b) (.slice A h.ah.length c) h.ah
theorem RdH.below {w w':World} {base:Nat} {v:Value} {h:Hp} (hr:RdH w base v h) (hb:Below w.heap.size w w'):RdH w' base v h:=
 let ⟨A,c,hv,hr⟩:=hr
 ⟨A,c,hv,hr.below (by decide) hb⟩
theorem RdH.of_sep {w:World} {S:Nat→Prop} {base n:Nat} {m:Int} {A:Option Addr} {c:Nat} {os:List Ob} {vs:List Value} (h:gD w S base (.slice A os.length c) os vs os.length) (hs:os.length*32≤140737488355328) (hn:n≤base):
  RdH w n (.agg #[.int .i64 m,.slice A os.length c]) ⟨m,os⟩:=⟨A,c,rfl,(h.rd hs).new (by decide) hn⟩
theorem RdH.zero {w:World} {n:Nat}:RdH w n (.agg #[.int .i64 0,.slice none 0 0]) ⟨0,[]⟩:=
 ⟨none,0,rfl,none,0,rfl,Nat.le_refl _,Nat.zero_le _,by simp,fun h=>absurd rfl h⟩
end
section
open Go.RowKit Go.Maps
def jb (P:Program) (kt e:TypeId) (z:Value) (w:World) (b n:Nat) (f:Int→Value):Prop:=
 ∃D:DataW Unit,w.ownsMap P kt (plainElem P e) b n D∧IsMap D∧∃zd,plainElem P e z=some (zd,[])∧
  ∀k:Int,(Lit.int .i64 k).wf=true→∃d,plainElem P e (f k)=some (d,[])∧D.atKey (.int .i64 k) zd=d
section
variable {P:Program} {kt e t:TypeId} {z:Value} {w w':World} {b n:Nat} {f:Int→Value}
theorem plain_inj {v v':Value} {d:DataW Unit} {ps ps':List MemPlace} (he:P.underlying e=some .bool∨∃q,P.underlying e=some (.int q)) (h:plainElem P e v=some (d,ps)) (h':plainElem P e v'=some (d,ps')):v=v':=by
 rcases he with he|⟨q,he⟩
 ·unfold plainElem at h h';rw[he] at h h'
  cases v<;>simp at h
  cases v'<;>simp at h'
  obtain⟨rfl,_⟩:=h;obtain⟨h',_⟩:=h';injection h' with h'
  injection h' with h'
  rw[h']
 ·obtain⟨a,rfl,h1,_⟩:=plainElem_int_inv he h;obtain⟨a',rfl,h2,_⟩:=plainElem_int_inv he h';simp only[Prod.mk.injEq] at h1 h2;have:=h1.1.symm.trans h2.1;injection this with this
  injection this with _ this
  rw[this]
theorem jb.made {zd:DataW Unit} (he:plainElem (H:=Unit) P e z=some (zd,[])):jb P kt e z (w.alloc (.map #[] 0)) w.heap.size 0 (fun _=>z):=
 ⟨_,World.ownsMap_made _ _ _ _,⟨[],rfl⟩,zd,he,fun _ _=>⟨zd,he,rfl⟩⟩
theorem jb.lt (h:jb P kt e z w b n f):b<w.heap.size:=let ⟨_,h,_⟩:=h;h.lt
theorem jb.mono (h:jb P kt e z w b n f) {m:Nat} (hm:n≤m):jb P kt e z w b m f:=let ⟨D,h,r⟩:=h;⟨D,h.mono hm,r⟩
theorem jb.keep (h:jb P kt e z w b n f) (hb:w'.heap[b]?=w.heap[b]?):jb P kt e z w' b n f:=by
 obtain⟨D,⟨es,clock,hh,r1⟩,r⟩:=h;exact⟨D,⟨es,clock,hb.trans hh,r1⟩,r⟩
theorem jb.congr (h:jb P kt e z w b n f) {g:Int→Value} (hg:∀k,(Lit.int .i64 k).wf=true→g k=f k):jb P kt e z w b n g:=by
 obtain⟨D,h1,h2,zd,h3,h4⟩:=h;exact⟨D,h1,h2,zd,h3,fun k hk=>by rw[hg k hk];exact h4 k hk⟩
theorem jb.lookup (h:jb P kt e z w b n f) (he:P.underlying e=some .bool∨∃q,P.underlying e=some (.int q)) (hk:P.underlying kt=some (.int .i64)) (ht:P.underlying t=some (.map kt e))
  (hz:(zeroValue e).run P w= .ok z w) {k:Int} (hw:(Lit.int .i64 k).wf=true):(Instr.lookup t (.map (some b)) (.int .i64 k) false).run P w= .ok (f k) w:=by
 obtain⟨D,h1,h2,zd,h3,h4⟩:=h;obtain⟨v,ps,hrun,hv⟩:=h1.lookup (int_keyed hk) ht hz h3 (keyOf_int_mk hk hw);obtain⟨d,hd,hat⟩:=h4 k hw;rw[hat] at hv;rw[plain_inj he hd hv];exact hrun
theorem jb.update (h:jb P kt e z w b n f) (hk:P.underlying kt=some (.int .i64)) (ht:P.underlying t=some (.map kt e)) (hn:n<maxLen) {k:Int} (hw:(Lit.int .i64 k).wf=true) {v:Value} {d:DataW Unit} (hv:plainElem P e v=some (d,[])):
  ∃w',(Instr.mapUpdate t (.map (some b)) (.int .i64 k) v).run P w= .ok () w'∧jb P kt e z w' b (n+1) (fun i=>if i=k then v else f i)∧w.grownBy w' (some b):=by
 obtain⟨D,h1,h2,zd,h3,h4⟩:=h;obtain⟨w',hrun,ho,hg⟩:=h1.update (int_keyed hk) ht hn (keyOf_int_mk hk hw) hv;refine⟨w',hrun,⟨_,ho,?_,zd,h3,fun i hi=>?_⟩,hg⟩
 ·obtain⟨es,rfl⟩:=h2;exact⟨_,rfl⟩
 ·by_cases hik:i=k
  ·subst hik;exact⟨d,by simpa using hv,atKey_put_same (k:= .int .i64 i) h2 trivial _ _⟩
  ·obtain⟨d',hd',hat⟩:=h4 i hi;refine⟨d',by simpa[hik] using hd',?_⟩;rw[atKey_put_other (fun e=>hik (by injection e))];exact hat
end
theorem jW {P:Program} (w:World) {ops:Array Oper} {rest:List Oper} {o:Oper} {a:Act} {Q:Exit→Act→World→Prop}
  (hg:o.guard=none) (m x v:Operand) (t:TypeId) (hop:o.op=Op.mapUpdate t m x v) (kt e:TypeId) (z:Value) (b n:Nat) (f:Int→Value) (hk:P.underlying kt=some (.int .i64)) (ht:P.underlying t=some (.map kt e))
  (hm:a.eval m= .map (some b)) (hown:jb P kt e z w b n f) (hn:n<maxLen) (k:Int) (val:Value) (hx:a.eval x= .int .i64 k) (hv:a.eval v=val) (hw:(Lit.int .i64 k).wf=true) (d:DataW Unit) (hval:plainElem P e val=some (d,[]))
  (hK:∀w',jb P kt e z w' b (n+1) (fun i=>if i=k then val else f i)→w.grownBy w' (some b)→wpList P ops Q rest (a.put o.dst undef) w'):wpList P ops Q (o::rest) a w:=by
 refine wpList_plain hg fun K' hK'=>?_;obtain⟨w',hrun,r1,r2⟩:=hown.update hk ht hn hw hval;unfold Oper.wp;simp[execOp,hop,hm,hx,hv,hrun,Result.andThen]
 exact hK' _ _ (hK w' r1 r2)
end
section
open Go.RowKit
def kI (x:Ac) (ho vr vb:Value):List Value:=[.int .i64 x.kind,.int .i64 x.parent,.int .i64 x.heap.most,ho,vr,.int .i64 x.pc,vb,.int .i64 x.fin]
end
end Go.Proofs.YtdmocjnjbihloaaDoor
