/- A world of actors that is written in place: its rows, each apart from the others, as one thing of a call's own; what is taken out of it, and put back. No condition. -/
import Derived.Test.YtdmocjnjbihloaaDoorSortI
import Derived.Test.YtdmocjnjbihloaaDoorActK
import Derived.Test.YtdmocjnjbihloaaDoorActCopy
namespace Go.Proofs.YtdmocjnjbihloaaDoor
open Go.RowKit
inductive Key where
 |head
 |acts
 |prints
 |regs (i:Nat)
 |box (i:Nat)
def Key.num:Key→Nat
 | .head=>0
 | .acts=>1
 | .prints=>2
 | .regs i=>2*i+3
 | .box i=>2*i+4
theorem Key.num_inj {a b:Key} (h:a.num=b.num):a=b:=by
 cases a<;>cases b<;>simp only[Key.num] at h<;>first|rfl|omega|(congr 1;omega)
instance:DecidableEq Key:=fun a b=>decidable_of_iff (a.num=b.num) ⟨Key.num_inj,fun h=>by rw[h]⟩
structure Lay where
 head:Nat
 kA:Option Addr
 kc:Nat
 g:Nat
 gc:Nat
 pA:Option Addr
 pc:Nat
 oA:Nat→Option Addr
 oc:Nat→Nat
 rg:Nat→Nat
 rc:Nat→Nat
 bA:Nat→Option Addr
 bc:Nat→Nat
def upd {α:Type} (f:Nat→α) (n:Nat) (x:α):Nat→α:=fun i=>if i=n then x else f i
theorem fQ {α:Type} (f:Nat→α) (n:Nat) (x:α):upd f n x n=x:=if_pos rfl
theorem upd_ne {α:Type} (f:Nat→α) {n m:Nat} (x:α) (h:m≠n):upd f n x m=f m:=if_neg h
def Lay.az (L:Lay) (n:Nat) (A:Option Addr) (c:Nat):Lay:={L with oA:=upd L.oA n A,oc:=upd L.oc n c}
def Lay.aO (L:Lay) (n g c:Nat):Lay:={L with rg:=upd L.rg n g,rc:=upd L.rc n c}
def Lay.aN (L:Lay) (n:Nat) (A:Option Addr) (c:Nat):Lay:={L with bA:=upd L.bA n A,bc:=upd L.bc n c}
def nores:Res:= .any (fun _=>False) (fun _=>True) (fun _ _ _ _=>trivial)
def iH (L:Lay) (i:Nat) (a:Ac):List Value:=kI a (.slice (L.oA i) a.heap.ah.length (L.oc i)) (.slice (some ⟨L.rg i,0,none⟩) 8 (L.rc i)) (.slice (L.bA i) a.box.length (L.bc i))
def dP (L:Lay) (acs:List Ac):List (List Value):=acs.mapIdx (iH L)
def tcs (l:List Td):List (List Value):=l.map (fun t=>[.int .i64 t.cK,.int .i64 t.n])
def eB (nk:Nat) (L:Lay) (W:Wd):Array Value:=#[.slice L.kA nk L.kc,.slice (some ⟨L.g,0,none⟩) W.aa.length L.gc,.slice L.pA W.prints.length L.pc]
def kM (L:Lay) (i:Nat) (a:Ac):Res:= .row 0 47 2 (.slice (some ⟨L.rg i,0,none⟩) 8 (L.rc i)) 8 (cat (vcs a.regs))
def iy (L:Lay) (i:Nat) (a:Ac):Res:= .row 0 47 2 (.slice (L.bA i) a.box.length (L.bc i)) a.box.length (cat (vcs a.box))
def Lay.bR (st:Bool) (nk:Nat) (L:Lay) (W:Wd):Key→Res
 | .head=>if st then .blk L.head (eB nk L W) 100 else nores
 | .acts=> .row 0 39 8 (.slice (some ⟨L.g,0,none⟩) W.aa.length L.gc) W.aa.length (cat (dP L W.aa))
 | .prints=> .row 0 70 2 (.slice L.pA W.prints.length L.pc) W.prints.length (cat (tcs W.prints))
 | .regs i=>match W.aa[i]? with|some a=>kM L i a|none=>nores
 | .box i=>match W.aa[i]? with|some a=>iy L i a|none=>nores
def Lay.own (st:Bool) (nk:Nat) (L:Lay) (W:Wd) (X:List Key) (k:Key):Res:=if k∈X then nores else L.bR st nk W k
structure aW (st:Bool) (nk:Nat) (W:Wd) (L:Lay) (X:List Key) (w:World):Prop where
 ok:∀k,(L.own st nk W X k).ok w
 apart:∀k k',k≠k'→∀b,(L.own st nk W X k).foot b→¬(L.own st nk W X k').foot b
 regs:∀a∈W.aa,a.regs.length=8
def stR (st:Bool) (nk:Nat) (W:Wd) (L:Lay) (X:List Key):Res:=
 .any (fun b=>∃k,(L.own st nk W X k).foot b) (aW st nk W L X) (fun _ _ h ho=>⟨fun k=>Res.stab (fun b hb=>h b ⟨k,hb⟩) (ho.ok k),ho.apart,ho.regs⟩)
def aA (w:World) (S:Nat→Prop) (W:Wd) (L:Lay):Prop:=∀(i:Nat) (a:Ac),W.aa[i]?=some a→aj obE w S (.slice (L.oA i) a.heap.ah.length (L.oc i)) a.heap.ah
section
variable {B:Nat} {w0 w w':World} {R R':List Res} {st:Bool} {nk:Nat} {W W':Wd} {L L':Lay} {X X':List Key}
theorem aA.keep {S S':Nat→Prop} (h:aA w S W L) (hk:∀b,b<w.heap.size→S b→S' b∧w'.heap[b]?=w.heap[b]?):aA w' S' W L:=fun i a ha=>(h i a ha).keep (by decide) hk
theorem aA.move {n:Nat} (h:aA w (Fr n R) W L) (k:au w R w' R'):aA w' (Fr n R') W L:=fun i a ha=>(h i a ha).move (by decide) k
theorem sq {B n:Nat} {w0 v w1:World} {Q R1:List Res} (h:St B w0 w' R'∧au v Q w' R') (k:Hid (au w1 R1 v Q)) (m:Hid (aA v (Fr n Q) W L)) (hz:w1.heap.size≤v.heap.size):Hid (St B w0 w' R')∧Hid (au w1 R1 w' R')∧Hid (aA w' (Fr n R') W L):=⟨h.1,k.trans hz h.2,m.move h.2⟩
theorem zQ {B n:Nat} {w0 v w1:World} {Q R1:List Res} (h:St B w0 w' R'∧au v Q w' R') (k:Hid (au w1 R1 v Q)) (m:Hid (aA v (Fr n Q) W L)) (hz:w1.heap.size≤v.heap.size) (hs:v.heap.size≤w'.heap.size:=by simp):Hid (St B w0 w' R')∧Hid (au w1 R1 w' R')∧Hid (aA w' (Fr n R') W L)∧w1.heap.size≤w'.heap.size:=⟨h.1,k.trans hz h.2,m.move h.2,Nat.le_trans hz hs⟩
theorem zW {B n:Nat} {w0 v w1:World} {Q R1:List Res} (w':World) (R':List Res) (h:St B w0 w' R'∧au v Q w' R') (k:Hid (au w1 R1 v Q)) (m:Hid (aA v (Fr n Q) W L)) (hz:w1.heap.size≤v.heap.size) (hs:v.heap.size≤w'.heap.size:=by simp):Hid (St B w0 w' R')∧Hid (au w1 R1 w' R')∧Hid (aA w' (Fr n R') W L)∧w1.heap.size≤w'.heap.size:=zQ h k m hz hs
theorem aA.s {n:Nat} (h:aA w (Fr n R) W L) (k:au w R w' R'):Hid (aA w' (Fr n R') W L):=h.move k
theorem qY {n m:Nat} {a:Ac}:(W.put n a).aa[m]?=if m=n then(if n<W.aa.length then some a else none) else W.aa[m]?:=by
 unfold Wd.put;rw[List.getElem?_set];by_cases h:n=m
 ·subst h;simp
 ·simp[h,Ne.symm h]
theorem aJ {n:Nat} {a b:Ac} (h:W.aa[n]?=some a):(W.put n b).aa[n]?=some b:=by
 have:=(zE.1 h).1;rw[qY,if_pos rfl,if_pos this]
theorem jP {n m:Nat} {b:Ac} (h:m≠n):(W.put n b).aa[m]?=W.aa[m]?:=by rw[qY,if_neg h]
theorem bz {n:Nat} {a b:Ac}:(W.put n a).put n b=W.put n b:=by simp[Wd.put]
theorem aX {n:Nat} {a:Ac}:(W.put n a).aa.length=W.aa.length:=by simp[Wd.put]
theorem pO {n:Nat} {a:Ac} (h:W.aa[n]?=some a):W.put n a=W:=by
 unfold Wd.put;obtain⟨hl,he⟩:=zE.1 h;rw[←he,List.set_getElem_self]
theorem aP {n:Nat} {a:Ac} (h:W.aa[n]?=some a):W.at_ n=a:=by simp[Wd.at_,List.getD,h]
theorem iJ {n:Nat} (h:n<W.aa.length):W.aa[n]?=some (W.at_ n):=by
 rw[zD h,Wd.at_,List.getD,zD h];rfl
theorem aA.put {S:Nat→Prop} {n:Nat} {a a':Ac} (h:aA w S W L) (ha:W.aa[n]?=some a) (ho:a'.heap.ah=a.heap.ah):aA w S (W.put n a') L:=fun i x hx=>by
 by_cases hi:i=n
 ·subst hi;rw[aJ ha] at hx;injection hx with hx
  subst hx;rw[ho];exact h i a ha
 ·rw[jP hi] at hx;exact h i x hx
theorem aA.ah {S:Nat→Prop} {n:Nat} {a a':Ac} {A:Option Addr} {c:Nat} (h:aA w S W L) (ha:W.aa[n]?=some a) (hr:aj obE w S (.slice A a'.heap.ah.length c) a'.heap.ah):aA w S (W.put n a') (L.az n A c):=fun i x hx=>by
 by_cases hi:i=n
 ·subst hi;rw[aJ ha] at hx;injection hx with hx
  subst hx;simpa[Lay.az,fQ] using hr
 ·rw[jP hi] at hx;simpa[Lay.az,upd_ne _ _ hi] using h i x hx
theorem bS {k:Key} (h:k∉X):L.own st nk W X k=L.bR st nk W k:=if_neg h
theorem lF {k:Key} (h:k∈X):L.own st nk W X k=nores:=if_pos h
theorem aW.lt (h:aW st nk W L X w) {k:Key} {b:Nat} (hb:(L.own st nk W X k).foot b):b<w.heap.size:=by
 have ho:=h.ok k;unfold Lay.own at ho hb;split at ho
 ·rename_i hx;rw[if_pos hx] at hb;exact hb.elim
 rename_i hx
 rw[if_neg hx] at hb
 cases k with
 |head=>
  simp only[Lay.bR] at ho hb;split at ho
  ·rename_i hs
   rw[if_pos hs] at hb;replace hb:b=L.head:=hb;subst hb;exact lK ho
  ·rename_i hs;rw[if_neg hs] at hb;exact hb.elim
 |acts=>exact(dJ ho hb).1
 |prints=>exact(dJ ho hb).1
 |regs i=>
  simp only[Lay.bR] at ho hb
  cases hx:W.aa[i]? with
  |none=>rw[hx] at hb;exact hb.elim
  |some a=>rw[hx] at hb ho;exact(dJ ho hb).1
 |box i=>
  simp only[Lay.bR] at ho hb
  cases hx:W.aa[i]? with
  |none=>rw[hx] at hb;exact hb.elim
  |some a=>rw[hx] at hb ho;exact(dJ ho hb).1
theorem St.rG (h:St B w0 w R) (i:Nat) (hi:R[i]?=some (stR st nk W L X)) (k0:Key) (hs:w.heap.size≤w'.heap.size) (hos:w'.os=w.os) (htp:w'.tape=w.tape) (hop:w'.output=w.output)
  (hk:∀b,b<w.heap.size→¬(L.own st nk W X k0).foot b→w'.heap[b]?=w.heap[b]?) (hsame:∀k,k≠k0→L'.own st nk W' X' k=L.own st nk W X k) (ho:(L'.own st nk W' X' k0).ok w')
  (hf:∀b,(L'.own st nk W' X' k0).foot b→(L.own st nk W X k0).foot b∨(w.heap.size≤b∧b<w'.heap.size)) (hr:∀a∈W'.aa,a.regs.length=8):
  St B w0 w' (R.set i (stR st nk W' L' X'))∧au w R w' (R.set i (stR st nk W' L' X')):=by
 have hS:aW st nk W L X w:=h.at_ i hi;have hnew:∀k b,k≠k0→(L'.own st nk W' X' k0).foot b→¬(L.own st nk W X k).foot b:=fun k b hne hb hb'=>by
  rcases hf b hb with h1|h1
  ·exact hS.apart k k0 hne b hb' h1
  ·have:=hS.lt hb';omega
 refine h.turn i hi (stR st nk W' L' X') hs hos htp hop (fun b hb hn=>hk b hb (fun hf=>hn ⟨k0,hf⟩)) ⟨fun k=>?_,fun k k' hne b hb hb'=>?_,hr⟩ (fun b hb=>?_)
 ·by_cases hk0:k=k0
  ·subst hk0;exact ho
  ·rw[hsame k hk0];exact Res.stab (fun b hb=>hk b (hS.lt hb) (hS.apart k k0 hk0 b hb)) (hS.ok k)
 ·by_cases h1:k=k0
  ·subst h1;rw[hsame k' (Ne.symm hne)] at hb';exact hnew k' b (Ne.symm hne) hb hb'
  ·rw[hsame k h1] at hb;by_cases h2:k'=k0
   ·subst h2;exact hnew k b h1 hb' hb
   ·rw[hsame k' h2] at hb';exact hS.apart k k' hne b hb hb'
 ·obtain⟨k,hk'⟩:=hb;by_cases h1:k=k0
  ·subst h1;rcases hf b hk' with h2|h2
   ·exact .inl ⟨k,h2⟩
   ·exact .inr h2
  ·rw[hsame k h1] at hk';exact .inl ⟨k,hk'⟩
theorem St.split (h:St B w0 w R) (i:Nat) {r:Res} (hi:R[i]?=some r) (r1 r2:Res) (h1:r1.ok w) (h2:r2.ok w) (f1:∀b,r1.foot b→r.foot b) (f2:∀b,r2.foot b→r.foot b) (ha:∀b,r1.foot b→¬r2.foot b):
  St B w0 w (r1::R.set i r2)∧au w R w (r1::R.set i r2):=by
 obtain⟨g,k⟩:=h.turn (w':=w) i hi r2 (Nat.le_refl _) rfl rfl rfl (fun _ _ _=>rfl) h2 (fun b hb=> .inl (f2 b hb));have hil:i<R.length:=(zE.1 hi).1;have hfree:∀x∈R.set i r2,∀b,r1.foot b→¬x.foot b:=fun x hx b hb hxb=>by
  obtain⟨j,hj⟩:=List.getElem?_of_mem hx;rw[List.getElem?_set] at hj;by_cases hij:i=j
  ·subst hij;simp[hil] at hj
   subst hj;exact ha b hb hxb
  ·rw[if_neg hij] at hj;obtain⟨hjl,ej⟩:=zE.1 hj;obtain⟨_,ei⟩:=zE.1 hi;rcases Nat.lt_or_gt_of_ne hij with hlt|hgt
   ·have:=List.pairwise_iff_getElem.1 h.apart i j hil hjl hlt b;rw[ei,ej] at this;exact this (f1 b hb) hxb
   ·have:=List.pairwise_iff_getElem.1 h.apart j i hjl hil hgt b;rw[ei,ej] at this;exact this hxb (f1 b hb)
 refine⟨⟨g.below,fun x hx=>?_,fun x hx b hb=>?_,List.pairwise_cons.2 ⟨fun x hx b hb=>hfree x hx b hb,g.apart⟩,g.base⟩,fun b hb hf=>⟨fun x hx hxb=>?_,rfl⟩⟩
 ·rcases List.mem_cons.1 hx with rfl|hx
  ·exact h1
  ·exact g.ok x hx
 ·rcases List.mem_cons.1 hx with rfl|hx
  ·exact h.foot r (zF hi) b (f1 b hb)
  ·exact g.foot x hx b hb
 ·rcases List.mem_cons.1 hx with rfl|hx
  ·exact hf r (zF hi) (f1 b hxb)
  ·exact(k b hb hf).1 x hx hxb
theorem St.merge {r1:Res} (h:St B w0 w (r1::R)) (i:Nat) {r:Res} (hi:R[i]?=some r) (r':Res) (ho:r'.ok w) (hf:∀b,r'.foot b→r1.foot b∨r.foot b):
  St B w0 w (R.set i r')∧au w (r1::R) w (R.set i r'):=by
 have hil:i<R.length:=(zE.1 hi).1;have hri:R[i]=r:=(zE.1 hi).2;have h1:=(List.pairwise_cons.1 h.apart).1;have h2:=(List.pairwise_cons.1 h.apart).2;have hget:∀(j:Nat) (x:Res),(R.set i r')[j]?=some x→(j=i∧x=r')∨(j≠i∧R[j]?=some x):=by
  intro j x hx;rw[List.getElem?_set] at hx;by_cases hij:i=j
  ·subst hij;simp[hil] at hx
   exact .inl ⟨rfl,hx.symm⟩
  ·simp[hij] at hx
   exact .inr ⟨Ne.symm hij,hx⟩
 have hap:∀(j:Nat) (x:Res),R[j]?=some x→j≠i→∀b,x.foot b→¬r'.foot b:=by
  intro j x hx hne b hb hb';obtain⟨hj,ex⟩:=zE.1 hx;rcases hf b hb' with h3|h3
  ·exact h1 x (zF hx) b h3 hb
  ·rcases Nat.lt_or_gt_of_ne hne with hlt|hgt
   ·have:=List.pairwise_iff_getElem.1 h2 j i hj hil hlt b;rw[ex,hri] at this;exact this hb h3
   ·have:=List.pairwise_iff_getElem.1 h2 i j hil hj hgt b;rw[ex,hri] at this;exact this h3 hb
 refine⟨⟨h.below,fun x hx=>?_,fun x hx b hb=>?_,?_,h.base⟩,fun b hb hfr=>⟨fun x hx hxb=>?_,rfl⟩⟩
 ·obtain⟨j,hj⟩:=List.getElem?_of_mem hx;rcases hget j x hj with⟨-,rfl⟩|⟨-,hj'⟩
  ·exact ho
  ·exact h.ok x (List.mem_cons_of_mem _ (zF hj'))
 ·obtain⟨j,hj⟩:=List.getElem?_of_mem hx;rcases hget j x hj with⟨-,rfl⟩|⟨-,hj'⟩
  ·rcases hf b hb with h3|h3
   ·exact h.foot r1 (by simp) b h3
   ·exact h.foot r (List.mem_cons_of_mem _ (zF hi)) b h3
  ·exact h.foot x (List.mem_cons_of_mem _ (zF hj')) b hb
 ·refine List.pairwise_iff_getElem.2 fun j k hj hk' hlt b hb hb'=>?_;have ej:(R.set i r')[j]?=some ((R.set i r')[j]):=zD hj;have ek:(R.set i r')[k]?=some ((R.set i r')[k]):=zD hk';rcases hget j _ ej with⟨rfl,e1⟩|⟨n1,e1⟩
  ·rcases hget k _ ek with⟨rfl,-⟩|⟨n2,e2⟩
   ·omega
   ·rw[e1] at hb;exact hap k _ e2 n2 b hb' hb
  ·rcases hget k _ ek with⟨rfl,e2⟩|⟨n2,e2⟩
   ·rw[e2] at hb';exact hap j _ e1 n1 b hb hb'
   ·obtain⟨l1,q1⟩:=zE.1 e1;obtain⟨l2,q2⟩:=zE.1 e2;have:=List.pairwise_iff_getElem.1 h2 j k l1 l2 hlt b;rw[q1,q2] at this;exact this hb hb'
 ·obtain⟨j,hj⟩:=List.getElem?_of_mem hx;rcases hget j x hj with⟨-,rfl⟩|⟨-,hj'⟩
  ·rcases hf b hxb with h3|h3
   ·exact hfr r1 (by simp) h3
   ·exact hfr r (List.mem_cons_of_mem _ (zF hi)) h3
  ·exact hfr x (List.mem_cons_of_mem _ (zF hj')) hxb
theorem own_cons {k k':Key}:L.own st nk W (k::X) k'=if k'=k then nores else L.own st nk W X k':=by
 unfold Lay.own;by_cases h:k'=k
 ·simp[h]
 ·simp[h]
theorem St.lg (h:St B w0 w R) (i:Nat) (hi:R[i]?=some (stR st nk W L X)) (k:Key) (hX:k∉X):St B w0 w (L.bR st nk W k::R.set i (stR st nk W L (k::X)))∧au w R w (L.bR st nk W k::R.set i (stR st nk W L (k::X))):=by
 have hS:aW st nk W L X w:=h.at_ i hi;have e:=bS (st:=st) (nk:=nk) (W:=W) (L:=L) hX;have sub:∀k' b,(L.own st nk W (k::X) k').foot b→k'≠k∧(L.own st nk W X k').foot b:=fun k' b hb=>by
  rw[own_cons] at hb;by_cases hk:k'=k
  ·rw[if_pos hk] at hb;exact hb.elim
  ·rw[if_neg hk] at hb;exact⟨hk,hb⟩
 refine h.split i hi _ _ (by rw[←e];exact hS.ok k) ⟨fun k'=>?_,fun k1 k2 hne b h1 h2=>hS.apart k1 k2 hne b (sub k1 b h1).2 (sub k2 b h2).2,hS.regs⟩ (fun b hb=>⟨k,by rw[e];exact hb⟩) (fun b ⟨k',hb⟩=>⟨k',(sub k' b hb).2⟩) (fun b hb ⟨k',hb'⟩=>?_)
 ·rw[own_cons];split
  ·trivial
  ·exact hS.ok k'
 ·obtain⟨hne,h2⟩:=sub k' b hb';exact hS.apart k' k hne b h2 (by rw[e];exact hb)
theorem St.plug {k:Key} {r:Res} (h:St B w0 w (r::R)) (i:Nat) (hi:R[i]?=some (stR st nk W L (k::X))) (hr:r=L.bR st nk W k) (hX:k∉X):St B w0 w (R.set i (stR st nk W L X))∧au w (r::R) w (R.set i (stR st nk W L X)):=by
 subst hr;have hS:aW st nk W L (k::X) w:=h.ok _ (List.mem_cons_of_mem _ (zF hi));have e:=bS (st:=st) (nk:=nk) (W:=W) (L:=L) hX;have h1:=(List.pairwise_cons.1 h.apart).1 _ (zF hi);have e2:∀k',k'≠k→L.own st nk W X k'=L.own st nk W (k::X) k':=fun k' hne=>by rw[own_cons,if_neg hne]
 refine h.merge i hi _ ⟨fun k'=>?_,fun k1 k2 hne b g1 g2=>?_,hS.regs⟩ (fun b ⟨k',hb⟩=>?_)
 ·by_cases hk:k'=k
  ·subst hk;rw[e];exact h.ok _ (by simp)
  ·rw[e2 k' hk];exact hS.ok k'
 ·by_cases q1:k1=k
  ·subst q1;rw[e] at g1;rw[e2 k2 (Ne.symm hne)] at g2;exact h1 b g1 ⟨k2,g2⟩
  ·rw[e2 k1 q1] at g1;by_cases q2:k2=k
   ·subst q2;rw[e] at g2;exact h1 b g2 ⟨k1,g1⟩
   ·rw[e2 k2 q2] at g2;exact hS.apart k1 k2 hne b g1 g2
 ·by_cases hk:k'=k
  ·subst hk;rw[e] at hb;exact .inl hb
  ·rw[e2 k' hk] at hb;exact .inr ⟨k',hb⟩
theorem St.reshape (h:St B w0 w R) (i:Nat) (hi:R[i]?=some (stR st nk W L X)) (hsame:∀k,L'.own st nk W' X' k=L.own st nk W X k) (hr:∀a∈W'.aa,a.regs.length=8):
  St B w0 w (R.set i (stR st nk W' L' X'))∧au w R w (R.set i (stR st nk W' L' X')):=by
 have hS:aW st nk W L X w:=h.at_ i hi;refine h.turn (w':=w) i hi _ (Nat.le_refl _) rfl rfl rfl (fun _ _ _=>rfl) ⟨fun k=>by rw[hsame];exact hS.ok k,fun k k' hne b h1 h2=>?_,hr⟩ (fun b ⟨k,hb⟩=> .inl ⟨k,by rw[←hsame];exact hb⟩);rw[hsame] at h1 h2;exact hS.apart k k' hne b h1 h2
theorem acRow_len {a:Ac} {n:Nat}:(iH L n a).length=8:=rfl
theorem pz {acs:List Ac} {n:Nat} {a:Ac} (h:acs[n]?=some a):(dP L acs)[n]?=some (iH L n a):=by simp[dP,h]
theorem sO {acs:List Ac}:∀cs∈dP L acs,cs.length=8:=fun cs hc=>by
 obtain⟨i,hi⟩:=List.getElem?_of_mem hc;simp only[dP,List.getElem?_mapIdx] at hi
 cases hx:acs[i]? with
 |none=>rw[hx] at hi;cases hi
 |some a=>rw[hx] at hi;injection hi with hi;subst hi;rfl
theorem tQ {acs:List Ac} {n:Nat} {a':Ac} (hoth:∀m,m≠n→∀x,iH L' m x=iH L m x):dP L' (acs.set n a')=(dP L acs).set n (iH L' n a'):=by
 apply List.ext_getElem?
 intro i;simp only[dP,List.getElem?_mapIdx,List.getElem?_set,List.length_mapIdx];by_cases h:n=i
 ·subst h;by_cases hl:n<acs.length<;>simp[hl]
 ·simp only[h,if_false]
  cases hx:acs[i]? with
  |none=>rfl
  |some x=>simp[hoth i (Ne.symm h) x]
theorem St.actPut (h:St B w0 w R) (i:Nat) (hi:R[i]?=some (stR st nk W L X)) {n:Nat} {a:Ac} (ha:W.aa[n]?=some a) (hX:Key.acts∉X) (j:Nat) (u:Value) (a':Ac) (L':Lay) (hj:j<8) (hrow:iH L' n a'=(iH L n a).set j u)
  (hoth:∀m,m≠n→∀x,iH L' m x=iH L m x) (hg:L'.g=L.g) (hgc:L'.gc=L.gc) (hsame:∀k,k≠Key.acts→L'.own st nk (W.put n a') X k=L.own st nk W X k) (hr:a'.regs.length=8):
  St B w0 (w.setCell ⟨L.g,n*8+j,none⟩ u) (R.set i (stR st nk (W.put n a') L' X))∧au w R (w.setCell ⟨L.g,n*8+j,none⟩ u) (R.set i (stR st nk (W.put n a') L' X)):=by
 have hS:aW st nk W L X w:=h.at_ i hi;have ho:=hS.ok .acts;rw[bS hX] at ho;replace ho:w.ownsRow 0 39 8 (.slice (some ⟨L.g,0,none⟩) W.aa.length L.gc) W.aa.length (cat (dP L W.aa)):=ho;have hset:=kG ho (n*8+j) u;have hflat:=jG (css:=dP L W.aa) (i:=n) (j:=j) u sO (pz ha) hj;have hcat:(cat (dP L W.aa)).set (n*8+j) u=cat (dP L' (W.put n a').aa):=by
  show _=cat (dP L' (W.aa.set n a'))
  rw[tQ hoth,hrow];exact hflat.symm
 refine h.rG i hi .acts (by simp) rfl rfl rfl (fun b _ hn=>Below.heap_setCell _ _ _ _ (fun e=>hn (by rw[bS hX];show some L.g=some b;rw[e]))) hsame ?_ (fun b hb=> .inl ?_) (fun x hx=>?_)
 ·rw[bS hX];show World.ownsRow _ 0 39 8 (.slice (some ⟨L'.g,0,none⟩) (W.put n a').aa.length L'.gc) (W.put n a').aa.length (cat (dP L' (W.put n a').aa))
  rw[hg,hgc,aX,←hcat];exact hset
 ·rw[bS hX] at hb ⊢;replace hb:some L'.g=some b:=hb;show some L.g=some b
  rw[←hb,hg]
 ·rcases List.mem_or_eq_of_mem_set hx with h'|rfl
  ·exact hS.regs x h'
  ·exact hr
theorem own_put {n:Nat} {a a':Ac} (ha:W.aa[n]?=some a) (hr:a'.regs=a.regs) (hb:a'.box=a.box):∀k,k≠Key.acts→L.own st nk (W.put n a') X k=L.own st nk W X k:=fun k hk=>by
 unfold Lay.own;split
 ·rfl
 cases k with
 |head=>simp[Lay.bR,eB,Wd.put]
 |acts=>exact absurd rfl hk
 |prints=>rfl
 |regs m=>
  by_cases hm:m=n
  ·subst hm;simp[Lay.bR,aJ ha,ha,kM,hr]
  ·simp[Lay.bR,jP hm]
 |box m=>
  by_cases hm:m=n
  ·subst hm;simp[Lay.bR,aJ ha,ha,iy,hb]
  ·simp[Lay.bR,jP hm]
theorem St.eU (h:St B w0 w R) (i:Nat) (hi:R[i]?=some (stR st nk W L X)) {n:Nat} {a:Ac} (ha:W.aa[n]?=some a) (hX:Key.acts∉X) (j:Nat) (u:Value) (a':Ac) (hj:j<8) (hrow:iH L n a'=(iH L n a).set j u) (hr:a'.regs=a.regs) (hb:a'.box=a.box):
  St B w0 (w.setCell ⟨L.g,n*8+j,none⟩ u) (R.set i (stR st nk (W.put n a') L X))∧au w R (w.setCell ⟨L.g,n*8+j,none⟩ u) (R.set i (stR st nk (W.put n a') L X)):=
 h.actPut i hi ha hX j u a' L hj hrow (fun _ _ _=>rfl) rfl rfl (own_put ha hr hb) (by rw[hr];exact(show aW st nk W L X w from h.at_ i hi).regs a (zF ha))
theorem St.actObjs (h:St B w0 w R) (i:Nat) (hi:R[i]?=some (stR st nk W L X)) {n:Nat} {a:Ac} (ha:W.aa[n]?=some a) (hX:Key.acts∉X) (A:Option Addr) (c:Nat) (os:List Ob):
  St B w0 (w.setCell ⟨L.g,n*8+3,none⟩ (.slice A os.length c)) (R.set i (stR st nk (W.put n (a.af ⟨a.heap.most,os⟩)) (L.az n A c) X))∧au w R (w.setCell ⟨L.g,n*8+3,none⟩ (.slice A os.length c)) (R.set i (stR st nk (W.put n (a.af ⟨a.heap.most,os⟩)) (L.az n A c) X)):=
 h.actPut i hi ha hX 3 _ _ _ (by decide) (by simp[iH,kI,Lay.az,fQ,Ac.af]) (fun m hm x=>by simp[iH,kI,Lay.az,upd_ne _ _ hm]) rfl rfl
  (fun k hk=>(by cases k<;>first|rfl|exact absurd rfl hk:(L.az n A c).own st nk (W.put n (a.af ⟨a.heap.most,os⟩)) X k=L.own st nk (W.put n (a.af ⟨a.heap.most,os⟩)) X k).trans (own_put (a':=a.af ⟨a.heap.most,os⟩) ha rfl rfl k hk))
  ((show aW st nk W L X w from h.at_ i hi).regs a (zF ha))
theorem own_hole {n:Nat} {a a':Ac} (ha:W.aa[n]?=some a) {k0:Key} (hX:k0∈X) (hk0:k0= .regs n∨k0= .box n) (hr:k0= .regs n∨a'.regs=a.regs) (hb:k0= .box n∨a'.box=a.box)
  (hh:L'.head=L.head∧L'.kA=L.kA∧L'.kc=L.kc∧L'.g=L.g∧L'.gc=L.gc∧L'.pA=L.pA∧L'.pc=L.pc) (h1:∀m,Key.regs m≠k0→L'.rg m=L.rg m∧L'.rc m=L.rc m) (h2:∀m,Key.box m≠k0→L'.bA m=L.bA m∧L'.bc m=L.bc m):
  ∀k,k≠Key.acts→L'.own st nk (W.put n a') X k=L.own st nk W X k:=fun k hk=>by
 obtain⟨g1,g2,g3,g4,g5,g6,g7⟩:=hh;by_cases hx:k∈X
 ·rw[lF hx,lF hx]
 rw[bS hx,bS hx];have hne:k≠k0:=fun e=>hx (e ▸ hX)
 cases k with
 |head=>simp[Lay.bR,eB,Wd.put,g1,g2,g3,g4,g5,g6,g7]
 |acts=>exact absurd rfl hk
 |prints=>simp[Lay.bR,Wd.put,g6,g7]
 |regs m=>
  obtain⟨q1,q2⟩:=h1 m hne;by_cases hm:m=n
  ·subst hm;have:=hr.resolve_left (Ne.symm hne);simp[Lay.bR,aJ ha,ha,kM,this,q1,q2]
  ·simp[Lay.bR,jP hm,kM,q1,q2]
 |box m=>
  obtain⟨q1,q2⟩:=h2 m hne;by_cases hm:m=n
  ·subst hm;have:=hb.resolve_left (Ne.symm hne);simp[Lay.bR,aJ ha,ha,iy,this,q1,q2]
  ·simp[Lay.bR,jP hm,iy,q1,q2]
theorem St.actRegs (h:St B w0 w R) (i:Nat) (hi:R[i]?=some (stR st nk W L X)) {n:Nat} {a:Ac} (ha:W.aa[n]?=some a) (hX:Key.acts∉X) (hX2:Key.regs n∈X) (g c:Nat) (rs:List V) (h8:rs.length=8):
  St B w0 (w.setCell ⟨L.g,n*8+4,none⟩ (.slice (some ⟨g,0,none⟩) 8 c)) (R.set i (stR st nk (W.put n {a with regs:=rs}) (L.aO n g c) X))∧au w R (w.setCell ⟨L.g,n*8+4,none⟩ (.slice (some ⟨g,0,none⟩) 8 c)) (R.set i (stR st nk (W.put n {a with regs:=rs}) (L.aO n g c) X)):=
 h.actPut i hi ha hX 4 _ _ _ (by decide) (by simp[iH,kI,Lay.aO,fQ]) (fun m hm x=>by simp[iH,kI,Lay.aO,upd_ne _ _ hm]) rfl rfl
  (own_hole ha hX2 (.inl rfl) (.inl rfl) (.inr rfl) ⟨rfl,rfl,rfl,rfl,rfl,rfl,rfl⟩ (fun m hm=>by
   have hm':m≠n:=fun e=>hm (by rw[e]);simp[Lay.aO,upd_ne _ _ hm']) (fun m _=>⟨rfl,rfl⟩)) h8
theorem St.o7 (h:St B w0 w R) (i:Nat) (hi:R[i]?=some (stR st nk W L X)) {n:Nat} {a:Ac} (ha:W.aa[n]?=some a) (hX:Key.acts∉X) (hX2:Key.box n∈X) (A:Option Addr) (c:Nat) (bs:List V):
  St B w0 (w.setCell ⟨L.g,n*8+6,none⟩ (.slice A bs.length c)) (R.set i (stR st nk (W.put n (a.aK bs)) (L.aN n A c) X))∧au w R (w.setCell ⟨L.g,n*8+6,none⟩ (.slice A bs.length c)) (R.set i (stR st nk (W.put n (a.aK bs)) (L.aN n A c) X)):=
 h.actPut i hi ha hX 6 _ _ _ (by decide) (by simp[iH,kI,Lay.aN,fQ,Ac.aK]) (fun m hm x=>by simp[iH,kI,Lay.aN,upd_ne _ _ hm]) rfl rfl
  (own_hole ha hX2 (.inr rfl) (.inr rfl) (.inl rfl) ⟨rfl,rfl,rfl,rfl,rfl,rfl,rfl⟩ (fun m _=>⟨rfl,rfl⟩) (fun m hm=>by
   have hm':m≠n:=fun e=>hm (by rw[e]);simp[Lay.aN,upd_ne _ _ hm'])) ((show aW st nk W L X w from h.at_ i hi).regs a (zF ha))
theorem St.jA (h:St B w0 w R) (i:Nat) (hi:R[i]?=some (stR st nk W L X)) {n:Nat} {a:Ac} (ha:W.aa[n]?=some a) (hX:Key.regs n∉X) (r:Nat) (hr8:r<8) (v:V):
  St B w0 ((w.setCell ⟨L.rg n,r*2,none⟩ (.int .i64 v.k)).setCell ⟨L.rg n,r*2+1,none⟩ (.int .i64 v.n)) (R.set i (stR st nk (W.put n (a.ai r v)) L X))∧
   au w R ((w.setCell ⟨L.rg n,r*2,none⟩ (.int .i64 v.k)).setCell ⟨L.rg n,r*2+1,none⟩ (.int .i64 v.n)) (R.set i (stR st nk (W.put n (a.ai r v)) L X)):=by
 have hS:aW st nk W L X w:=h.at_ i hi;have h8:=hS.regs a (zF ha);have e0:L.bR st nk W (.regs n)=kM L n a:=(by simp[Lay.bR,ha]);have e1:L.bR st nk (W.put n (a.ai r v)) (.regs n)=kM L n (a.ai r v):=(by simp[Lay.bR,aJ ha]);have ho:=hS.ok (.regs n);rw[bS hX,e0] at ho;replace ho:w.ownsRow 0 47 2 (.slice (some ⟨L.rg n,0,none⟩) 8 (L.rc n)) 8 (cat (vcs a.regs)):=ho;have hset:=kG (kG ho (r*2) (.int .i64 v.k)) (r*2+1) (.int .i64 v.n);have hfl:=flat_set2 (css:=vcs a.regs) (k:=r) (u:= .int .i64 v.k) (v:= .int .i64 v.n) (fun cs hc=>by obtain⟨x,_,rfl⟩:=List.mem_map.1 hc;rfl) (by simp[vcs,h8];exact hr8);have hv:(vcs a.regs).set r [.int .i64 v.k,.int .i64 v.n]=vcs (a.ai r v).regs:=(by simp[vcs,Ac.ai,List.map_set]);rw[hv] at hfl;have hnb:∀b,b≠L.rg n→((w.setCell ⟨L.rg n,r*2,none⟩ (.int .i64 v.k)).setCell ⟨L.rg n,r*2+1,none⟩ (.int .i64 v.n)).heap[b]?=w.heap[b]?:=fun b hb=>(Below.heap_setCell _ _ _ _ hb).trans (Below.heap_setCell _ _ _ _ hb);refine h.rG i hi (.regs n) (by simp) rfl rfl rfl (fun b _ hn=>hnb b (fun e=>hn (by rw[bS hX,e0];show some (L.rg n)=some b;rw[e]))) (fun k hk=>?_) ?_ (fun b hb=> .inl ?_) (fun x hx=>?_)
 ·by_cases hx:k∈X
  ·rw[lF hx,lF hx]
  rw[bS hx,bS hx]
  cases k with
  |head=>simp[Lay.bR,eB,Wd.put]
  |acts=>
   have:dP L (W.aa.set n (a.ai r v))=dP L W.aa:=by
    rw[tQ (L:=L) (fun _ _ _=>rfl)];have hrr:iH L n (a.ai r v)=iH L n a:=rfl;rw[hrr];have hat:=pz (L:=L) ha;obtain⟨hl,he⟩:=zE.1 hat;rw[←he,List.set_getElem_self]
   simp[Lay.bR,Wd.put,this]
  |prints=>rfl
  |regs m=>
   have hm:m≠n:=fun e=>hk (by rw[e]);simp[Lay.bR,jP hm]
  |box m=>
   by_cases hm:m=n
   ·subst hm;simp[Lay.bR,aJ ha,ha,iy,Ac.ai]
   ·simp[Lay.bR,jP hm]
 ·rw[bS hX,e1];show World.ownsRow _ 0 47 2 (.slice (some ⟨L.rg n,0,none⟩) 8 (L.rc n)) 8 (cat (vcs (a.ai r v).regs))
  unfold cat;rw[←hfl];exact hset
 ·rw[bS hX,e1] at hb;rw[bS hX,e0];exact hb
 ·rcases List.mem_or_eq_of_mem_set hx with h'|rfl
  ·exact hS.regs x h'
  ·simp[Ac.ai,h8]
theorem aW.act (h:aW st nk W L X w) {n:Nat} {a:Ac} (ha:W.aa[n]?=some a) (hX:Key.acts∉X):(∀j u,(iH L n a)[j]?=some u→w.cell? ⟨L.g,n*8+j,none⟩=some u)∧∀m,w.frozen? ⟨L.g,m,none⟩=false:=by
 have ho:=h.ok .acts;rw[bS hX] at ho;replace ho:w.ownsRow 0 39 8 (.slice (some ⟨L.g,0,none⟩) W.aa.length L.gc) W.aa.length (cat (dP L W.aa)):=ho;refine⟨fun j u hu=>?_,fun m=>?_⟩
 ·have:=ho.cells (g:=L.g) rfl (n*8+j) u (jT sO (pz ha) hu);rw[addr_add] at this;simpa using this
 ·rcases ho.2 with⟨h0,_⟩|⟨g',cap,cur,hv,_,hh,_⟩
  ·cases h0
  ·cases hv
   simp[World.frozen?,hh]
theorem aW.acts (h:aW st nk W L X w) {n:Nat} {a:Ac} (ha:W.aa[n]?=some a) (hX:Key.acts∉X):
  w.cell? ⟨L.g,n*8,none⟩=some (.int .i64 a.kind)∧w.cell? ⟨L.g,n*8+1,none⟩=some (.int .i64 a.parent)∧w.cell? ⟨L.g,n*8+2,none⟩=some (.int .i64 a.heap.most)∧w.cell? ⟨L.g,n*8+3,none⟩=some (.slice (L.oA n) a.heap.ah.length (L.oc n))∧
   w.cell? ⟨L.g,n*8+4,none⟩=some (.slice (some ⟨L.rg n,0,none⟩) 8 (L.rc n))∧w.cell? ⟨L.g,n*8+5,none⟩=some (.int .i64 a.pc)∧w.cell? ⟨L.g,n*8+6,none⟩=some (.slice (L.bA n) a.box.length (L.bc n))∧w.cell? ⟨L.g,n*8+7,none⟩=some (.int .i64 a.fin)∧
   (∀m,w.frozen? ⟨L.g,m,none⟩=false)∧L.g<w.heap.size:=by
 obtain⟨h1,h2⟩:=h.act ha hX;exact⟨h1 0 _ rfl,h1 1 _ rfl,h1 2 _ rfl,h1 3 _ rfl,h1 4 _ rfl,h1 5 _ rfl,h1 6 _ rfl,h1 7 _ rfl,h2,h.lt (k:= .acts) (by rw[bS hX];rfl)⟩
theorem aW.reg (h:aW st nk W L X w) {n:Nat} {a:Ac} (ha:W.aa[n]?=some a) (hX:Key.regs n∉X) {r:Nat} (hr:r<8):
  w.cell? ⟨L.rg n,r*2,none⟩=some (.int .i64 (a.reg r).k)∧w.cell? ⟨L.rg n,r*2+1,none⟩=some (.int .i64 (a.reg r).n)∧(∀m,w.frozen? ⟨L.rg n,m,none⟩=false)∧L.rg n<w.heap.size:=by
 have h8:=h.regs a (zF ha);have ho:=h.ok (.regs n);rw[bS hX] at ho;simp only[Lay.bR,ha] at ho;replace ho:w.ownsRow 0 47 2 (.slice (some ⟨L.rg n,0,none⟩) 8 (L.rc n)) 8 (cat (vcs a.regs)):=ho;have hx:a.regs[r]?=some (a.reg r):=by
  have hl:r<a.regs.length:=(by omega);simp[Ac.reg,List.getD,zD hl]
 have hc:∀j u,([Value.int .i64 (a.reg r).k,.int .i64 (a.reg r).n]:List Value)[j]?=some u→w.cell? ⟨L.rg n,r*2+j,none⟩=some u:=fun j u hu=>by
  have:=ho.cells (g:=L.rg n) rfl (r*2+j) u (jT (css:=vcs a.regs) (fun cs hc=>by obtain⟨x,_,rfl⟩:=List.mem_map.1 hc;rfl) (by simp only[vcs,List.getElem?_map,hx,Option.map_some]) hu);rw[addr_add] at this;simpa using this
 refine⟨hc 0 _ rfl,hc 1 _ rfl,fun m=>?_,h.lt (k:= .regs n) (by rw[bS hX];simp only[Lay.bR,ha];rfl)⟩;rcases ho.2 with⟨h0,_⟩|⟨g',cap,cur,hv,_,hh,_⟩
 ·cases h0
 ·cases hv
  simp[World.frozen?,hh]
theorem aW.headc (h:aW true nk W L X w) (hX:Key.head∉X):w.cell? ⟨L.head,0,none⟩=some (.slice L.kA nk L.kc)∧w.cell? ⟨L.head,1,none⟩=some (.slice (some ⟨L.g,0,none⟩) W.aa.length L.gc)∧w.cell? ⟨L.head,2,none⟩=some (.slice L.pA W.prints.length L.pc)∧
  (∀m,w.frozen? ⟨L.head,m,none⟩=false)∧L.head<w.heap.size:=by
 have ho:=h.ok .head;rw[bS hX] at ho;replace ho:w.heap[L.head]?=some (.cells (eB nk L W) 100 (0,0)):=ho;exact⟨by simp[World.cell?,ho,eB],by simp[World.cell?,ho,eB],by simp[World.cell?,ho,eB],fun m=>by simp[World.frozen?,ho],lK ho⟩
theorem uz {base n:Nat} {v:Value} {xs:List V} (h:w.ownsRow base 47 2 v n (cat (vcs xs))) (hn:n=xs.length) (hs:xs.length*16≤140737488355328):aj vE w (fun _=>True) v xs:=by
 subst hn;exact(dQ.rd (E:=vE) (S:=fun _=>True) ⟨vcs xs,gY xs,h,hs⟩).keep (by decide) (fun _ _ _=>⟨trivial,rfl⟩)
theorem aW.rdRegs (h:aW st nk W L X w) {n:Nat} {a:Ac} (ha:W.aa[n]?=some a) (hX:Key.regs n∉X):aj vE w (fun _=>True) (.slice (some ⟨L.rg n,0,none⟩) 8 (L.rc n)) a.regs:=by
 have h8:=h.regs a (zF ha);have ho:=h.ok (.regs n);rw[bS hX] at ho;simp only[Lay.bR,ha] at ho;exact uz ho h8.symm (by omega)
theorem aW.rdBox (h:aW st nk W L X w) {n:Nat} {a:Ac} (ha:W.aa[n]?=some a) (hX:Key.box n∉X) (hs:a.box.length≤6):aj vE w (fun _=>True) (.slice (L.bA n) a.box.length (L.bc n)) a.box:=by
 have ho:=h.ok (.box n);rw[bS hX] at ho;simp only[Lay.bR,ha] at ho;exact uz ho rfl (by omega)
def setCells (b:Nat):World→Nat→List Value→World
 |w,_,[]=>w
 |w,k,u::us=>setCells b (w.setCell ⟨b,k,none⟩ u) (k+1) us
def fillA:Array Value→Nat→List Value→Array Value
 |cs,_,[]=>cs
 |cs,k,u::us=>fillA (cs.setIfInBounds k u) (k+1) us
theorem fillA_all:∀(us:List Value) (cs:Array Value) (k:Nat),cs.size=k+us.length→(fillA cs k us).toList=cs.toList.take k++us
 | [],cs,k,h=>by
  simp only[fillA,List.append_nil];rw[List.take_of_length_le (by simpa using Nat.le_of_eq h)]
 |u::us,cs,k,h=>by
  simp only[fillA];rw[fillA_all us _ (k+1) (by simp at h ⊢;omega),Array.toList_setIfInBounds];have hk:k<cs.toList.length:=(by simp at h ⊢;omega);rw[List.take_add_one,List.take_set,List.getElem?_set_self hk,List.set_eq_of_length_le (by simp;omega)];simp
theorem St.putsAux {b i:Nat} {t:TypeId}:∀(us:List Value) (k:Nat) (w:World) (R:List Res) (cs:Array Value),St B w0 w R→R[i]?=some (.blk b cs t)→
  St B w0 (setCells b w k us) (R.set i (.blk b (fillA cs k us) t))∧au w R (setCells b w k us) (R.set i (.blk b (fillA cs k us) t))∧w.heap.size≤(setCells b w k us).heap.size
 | [],k,w,R,cs,h,hi=>by
  have e:R.set i (.blk b cs t)=R:=by
   obtain⟨hl,he⟩:=zE.1 hi;rw[←he,List.set_getElem_self]
  simp only[setCells,fillA];rw[e];exact⟨h,au.refl,Nat.le_refl _⟩
 |u::us,k,w,R,cs,h,hi=>by
  have hil:i<R.length:=(zE.1 hi).1;obtain⟨h1,k1⟩:=h.put i k u hi;obtain⟨h2,k2,s2⟩:=St.putsAux us (k+1) _ _ _ h1 (by rw[List.getElem?_set_self hil]);rw[List.set_set] at h2 k2;exact⟨h2,k1.trans (by simp) k2,Nat.le_trans (by simp) s2⟩
theorem St.puts (h:St B w0 w R) (i:Nat) (us:List Value) {b:Nat} {cs:Array Value} {t:TypeId} (hi:R[i]?=some (.blk b cs t)) (hs:cs.size=us.length):
  St B w0 (setCells b w 0 us) (R.set i (.blk b us.toArray t))∧au w R (setCells b w 0 us) (R.set i (.blk b us.toArray t)):=by
 obtain⟨h1,h2,_⟩:=St.putsAux us 0 w R cs h hi;have e:fillA cs 0 us=us.toArray:=by
  apply Array.toList_inj.1
  rw[fillA_all us cs 0 (by omega)];simp
 rw[e] at h1 h2;exact⟨h1,h2⟩
theorem St.put8 (h:St B w0 w R) (i:Nat) (u0 u1 u2 u3 u4 u5 u6 u7:Value) {b:Nat} {cs:Array Value} {t:TypeId} (hi:R[i]?=some (.blk b cs t)) (hs:cs.size=8):
  St B w0 ((((((((w.setCell ⟨b,0,none⟩ u0).setCell ⟨b,1,none⟩ u1).setCell ⟨b,2,none⟩ u2).setCell ⟨b,3,none⟩ u3).setCell ⟨b,4,none⟩ u4).setCell ⟨b,5,none⟩ u5).setCell ⟨b,6,none⟩ u6).setCell ⟨b,7,none⟩ u7) (R.set i (.blk b #[u0,u1,u2,u3,u4,u5,u6,u7] t))∧au w R ((((((((w.setCell ⟨b,0,none⟩ u0).setCell ⟨b,1,none⟩ u1).setCell ⟨b,2,none⟩ u2).setCell ⟨b,3,none⟩ u3).setCell ⟨b,4,none⟩ u4).setCell ⟨b,5,none⟩ u5).setCell ⟨b,6,none⟩ u6).setCell ⟨b,7,none⟩ u7) (R.set i (.blk b #[u0,u1,u2,u3,u4,u5,u6,u7] t)):=h.puts i [u0,u1,u2,u3,u4,u5,u6,u7] hi hs
theorem St.put3 (h:St B w0 w R) (i:Nat) (u0 u1 u2:Value) {b:Nat} {cs:Array Value} {t:TypeId} (hi:R[i]?=some (.blk b cs t)) (hs:cs.size=3):
  St B w0 (((w.setCell ⟨b,0,none⟩ u0).setCell ⟨b,1,none⟩ u1).setCell ⟨b,2,none⟩ u2) (R.set i (.blk b #[u0,u1,u2] t))∧au w R (((w.setCell ⟨b,0,none⟩ u0).setCell ⟨b,1,none⟩ u1).setCell ⟨b,2,none⟩ u2) (R.set i (.blk b #[u0,u1,u2] t)):=h.puts i [u0,u1,u2] hi hs
theorem blk_row {b:Nat} {cs:Array Value} {t:TypeId} {size n:Nat} (h:w.heap[b]?=some (.cells cs t (0,0))) (hn:cs.size=n*size) (hm:n≤maxLen):w.ownsRow 0 t size (.slice (some ⟨b,0,none⟩) n n) n cs.toList:=by
 refine⟨by simp[hn],.inr ⟨b,n,cs,rfl,Nat.zero_le _,h,Nat.le_refl _,hm,hn,?_⟩⟩;rw[List.take_of_length_le (by simp[hn])]
theorem St.stageNone (h:St B w0 w R) (st:Bool) (nk:Nat) (W:Wd) (L:Lay) (X:List Key) (hX:∀k,k∉X→(L.bR st nk W k).ok w∧∀b,¬(L.bR st nk W k).foot b) (hr:∀a∈W.aa,a.regs.length=8):
  St B w0 w (stR st nk W L X::R)∧au w R w (stR st nk W L X::R):=by
 have hf:∀k b,¬(L.own st nk W X k).foot b:=fun k b hb=>by
  unfold Lay.own at hb;split at hb
  ·exact hb.elim
  ·rename_i hx;exact(hX k hx).2 b hb
 refine h.made (Below.refl _ _) (stR st nk W L X) ⟨fun k=>?_,fun k _ _ b hb=>absurd hb (hf k b),hr⟩ (fun b ⟨k,hb⟩=>absurd hb (hf k b));unfold Lay.own;split
 ·trivial
 ·rename_i hx;exact(hX k hx).1
theorem aW.rdActs {S:Nat→Prop} (h:aW st nk W L [] w) (hH:aA w S W L) (hb:∀a∈W.aa,a.box.length≤6) (hn:W.aa.length≤1000000):aj acE w (fun _=>True) (.slice (some ⟨L.g,0,none⟩) W.aa.length L.gc) W.aa:=by
 have ho:=h.ok .acts;rw[bS (by simp)] at ho;replace ho:w.ownsRow 0 39 8 (.slice (some ⟨L.g,0,none⟩) W.aa.length L.gc) W.aa.length (cat (dP L W.aa)):=ho;refine(dQ.rd (E:=acE) (S:=fun _=>True) ⟨dP L W.aa,⟨by simp[dP],fun i x cs hx hc=>?_⟩,ho,by show W.aa.length*112≤_;omega⟩).keep (by decide) (fun _ _ _=>⟨trivial,rfl⟩);rw[pz hx] at hc;injection hc with hc
 subst hc;exact⟨rfl,_,_,_,rfl,(hH i x hx).keep (by decide) (fun _ _ _=>⟨trivial,rfl⟩),h.rdRegs hx (by simp),h.rdBox hx (by simp) (hb x (zF hx))⟩
theorem St.hc (h:St B w0 w R) (i:Nat) (hi:R[i]?=some (stR true nk W L X):=by exact rfl) (hX:Key.head∉X:=by simp):w.cell? ⟨L.head,0,none⟩=some (.slice L.kA nk L.kc)∧w.cell? ⟨L.head,1,none⟩=some (.slice (some ⟨L.g,0,none⟩) W.aa.length L.gc)∧w.cell? ⟨L.head,2,none⟩=some (.slice L.pA W.prints.length L.pc)∧
  (∀m,w.frozen? ⟨L.head,m,none⟩=false)∧L.head<w.heap.size:=(show aW true nk W L X w from h.at_ i hi).headc hX
theorem St.ac (h:St B w0 w R) (i:Nat) {n:Nat} {a:Ac} (ha:Hid (W.aa[n]?=some a)) (hi:R[i]?=some (stR st nk W L X):=by exact rfl) (hX:Key.acts∉X:=by simp):
  w.cell? ⟨L.g,n*8,none⟩=some (.int .i64 a.kind)∧w.cell? ⟨L.g,n*8+1,none⟩=some (.int .i64 a.parent)∧w.cell? ⟨L.g,n*8+2,none⟩=some (.int .i64 a.heap.most)∧w.cell? ⟨L.g,n*8+3,none⟩=some (.slice (L.oA n) a.heap.ah.length (L.oc n))∧
   w.cell? ⟨L.g,n*8+4,none⟩=some (.slice (some ⟨L.rg n,0,none⟩) 8 (L.rc n))∧w.cell? ⟨L.g,n*8+5,none⟩=some (.int .i64 a.pc)∧w.cell? ⟨L.g,n*8+6,none⟩=some (.slice (L.bA n) a.box.length (L.bc n))∧w.cell? ⟨L.g,n*8+7,none⟩=some (.int .i64 a.fin)∧
   (∀m,w.frozen? ⟨L.g,m,none⟩=false)∧L.g<w.heap.size:=(show aW st nk W L X w from h.at_ i hi).acts ha hX
theorem St.rg (h:St B w0 w R) (i:Nat) {n:Nat} {a:Ac} (ha:Hid (W.aa[n]?=some a)) (r:Nat) (hi:R[i]?=some (stR st nk W L X):=by exact rfl) (hX:Key.regs n∉X:=by simp) (hr:r<8:=by omega):
  w.cell? ⟨L.rg n,r*2,none⟩=some (.int .i64 (a.reg r).k)∧w.cell? ⟨L.rg n,r*2+1,none⟩=some (.int .i64 (a.reg r).n)∧(∀m,w.frozen? ⟨L.rg n,m,none⟩=false)∧L.rg n<w.heap.size:=(show aW st nk W L X w from h.at_ i hi).reg ha hX hr
theorem St.f2 (h:St B w0 w R) (i:Nat) {n:Nat} {a:Ac} (ha:Hid (W.aa[n]?=some a)) (hi:R[i]?=some (stR true nk W L X):=by exact rfl) (hX:Key.head∉X:=by simp) (hY:Key.acts∉X:=by simp):
  (w.cell? ⟨L.head,0,none⟩=some (.slice L.kA nk L.kc)∧w.cell? ⟨L.head,1,none⟩=some (.slice (some ⟨L.g,0,none⟩) W.aa.length L.gc)∧w.cell? ⟨L.head,2,none⟩=some (.slice L.pA W.prints.length L.pc)∧(∀m,w.frozen? ⟨L.head,m,none⟩=false)∧L.head<w.heap.size)∧w.cell? ⟨L.g,n*8,none⟩=some (.int .i64 a.kind)∧w.cell? ⟨L.g,n*8+1,none⟩=some (.int .i64 a.parent)∧w.cell? ⟨L.g,n*8+2,none⟩=some (.int .i64 a.heap.most)∧w.cell? ⟨L.g,n*8+3,none⟩=some (.slice (L.oA n) a.heap.ah.length (L.oc n))∧w.cell? ⟨L.g,n*8+4,none⟩=some (.slice (some ⟨L.rg n,0,none⟩) 8 (L.rc n))∧w.cell? ⟨L.g,n*8+5,none⟩=some (.int .i64 a.pc)∧w.cell? ⟨L.g,n*8+6,none⟩=some (.slice (L.bA n) a.box.length (L.bc n))∧w.cell? ⟨L.g,n*8+7,none⟩=some (.int .i64 a.fin)∧(∀m,w.frozen? ⟨L.g,m,none⟩=false)∧L.g<w.heap.size:=⟨h.hc i hi hX,h.ac i ha hi hY⟩
theorem St.f3 {P:Prop} (h:St B w0 w R) (k i:Nat) {n:Nat} {a:Ac} (ha:Hid (W.aa[n]?=some a)) (e:StRz w R k=P:=by first|(simp only[StRz,stR,dw,dI];done)|(simp only[StRz,stR,dw,dI];rfl)|(simp only[StRz,stR,dw];done)|(simp only[StRz,stR,dw];rfl)|(simp only[StRz,dw,dI];done)|(simp only[StRz,dw,dI];rfl)|(simp only[StRz,dw];done)|(simp only[StRz,dw];rfl)) (hi:R[i]?=some (stR true nk W L X):=by exact rfl) (hX:Key.head∉X:=by simp) (hY:Key.acts∉X:=by simp):
  P∧(w.cell? ⟨L.head,0,none⟩=some (.slice L.kA nk L.kc)∧w.cell? ⟨L.head,1,none⟩=some (.slice (some ⟨L.g,0,none⟩) W.aa.length L.gc)∧w.cell? ⟨L.head,2,none⟩=some (.slice L.pA W.prints.length L.pc)∧(∀m,w.frozen? ⟨L.head,m,none⟩=false)∧L.head<w.heap.size)∧w.cell? ⟨L.g,n*8,none⟩=some (.int .i64 a.kind)∧w.cell? ⟨L.g,n*8+1,none⟩=some (.int .i64 a.parent)∧w.cell? ⟨L.g,n*8+2,none⟩=some (.int .i64 a.heap.most)∧w.cell? ⟨L.g,n*8+3,none⟩=some (.slice (L.oA n) a.heap.ah.length (L.oc n))∧w.cell? ⟨L.g,n*8+4,none⟩=some (.slice (some ⟨L.rg n,0,none⟩) 8 (L.rc n))∧w.cell? ⟨L.g,n*8+5,none⟩=some (.int .i64 a.pc)∧w.cell? ⟨L.g,n*8+6,none⟩=some (.slice (L.bA n) a.box.length (L.bc n))∧w.cell? ⟨L.g,n*8+7,none⟩=some (.int .i64 a.fin)∧(∀m,w.frozen? ⟨L.g,m,none⟩=false)∧L.g<w.heap.size:=⟨h.rz k e,h.hc i hi hX,h.ac i ha hi hY⟩
theorem St.f5 {P:Prop} (h:St B w0 w R) (k i:Nat) {n:Nat} {a:Ac} (ha:Hid (W.aa[n]?=some a)) (r s:Nat) (e:StRz w R k=P:=by first|(simp only[StRz,stR,dw,dI];done)|(simp only[StRz,stR,dw,dI];rfl)|(simp only[StRz,stR,dw];done)|(simp only[StRz,stR,dw];rfl)|(simp only[StRz,dw,dI];done)|(simp only[StRz,dw,dI];rfl)|(simp only[StRz,dw];done)|(simp only[StRz,dw];rfl)) (hi:R[i]?=some (stR true nk W L X):=by exact rfl) (hX:Key.head∉X:=by simp) (hY:Key.acts∉X:=by simp) (hZ:Key.regs n∉X:=by simp) (hr:r<8:=by omega) (hs:s<8:=by omega):
  P∧(w.cell? ⟨L.head,0,none⟩=some (.slice L.kA nk L.kc)∧w.cell? ⟨L.head,1,none⟩=some (.slice (some ⟨L.g,0,none⟩) W.aa.length L.gc)∧w.cell? ⟨L.head,2,none⟩=some (.slice L.pA W.prints.length L.pc)∧(∀m,w.frozen? ⟨L.head,m,none⟩=false)∧L.head<w.heap.size)∧(w.cell? ⟨L.g,n*8,none⟩=some (.int .i64 a.kind)∧w.cell? ⟨L.g,n*8+1,none⟩=some (.int .i64 a.parent)∧w.cell? ⟨L.g,n*8+2,none⟩=some (.int .i64 a.heap.most)∧w.cell? ⟨L.g,n*8+3,none⟩=some (.slice (L.oA n) a.heap.ah.length (L.oc n))∧w.cell? ⟨L.g,n*8+4,none⟩=some (.slice (some ⟨L.rg n,0,none⟩) 8 (L.rc n))∧w.cell? ⟨L.g,n*8+5,none⟩=some (.int .i64 a.pc)∧w.cell? ⟨L.g,n*8+6,none⟩=some (.slice (L.bA n) a.box.length (L.bc n))∧w.cell? ⟨L.g,n*8+7,none⟩=some (.int .i64 a.fin)∧(∀m,w.frozen? ⟨L.g,m,none⟩=false)∧L.g<w.heap.size)∧(w.cell? ⟨L.rg n,r*2,none⟩=some (.int .i64 (a.reg r).k)∧w.cell? ⟨L.rg n,r*2+1,none⟩=some (.int .i64 (a.reg r).n)∧(∀m,w.frozen? ⟨L.rg n,m,none⟩=false)∧L.rg n<w.heap.size)∧w.cell? ⟨L.rg n,s*2,none⟩=some (.int .i64 (a.reg s).k)∧w.cell? ⟨L.rg n,s*2+1,none⟩=some (.int .i64 (a.reg s).n)∧(∀m,w.frozen? ⟨L.rg n,m,none⟩=false)∧L.rg n<w.heap.size:=⟨h.rz k e,h.hc i hi hX,h.ac i ha hi hY,h.rg i ha r hi hZ hr,h.rg i ha s hi hZ hs⟩
end
end Go.Proofs.YtdmocjnjbihloaaDoor
