/- The walk of the document's answer to heap.Check: it computes the plain function of SpecH, too. No condition beside what is read. The walks of heap.object, heap.Get and of the document's answers to them. No condition beside what is read. The walk of heap.Get. No condition beside what is read. A field of an object is set in a heap whose rows lie apart. No condition. -/
import Derived.Test.YtdmocjnjbihloaaDoorHeapB
import Derived.Test.YtdmocjnjbihloaaDoorActCopy
namespace Go.Proofs.YtdmocjnjbihloaaDoor
section
open Go.RowKit
end
section
open Go.RowKit
def bJ (os:List Ob) (v:V) (f:Int):Int:=
 if v.k=2 then
  match os[v.n.toNat]? with
  |some o=>if o.dead then 10 else if f<0∨(o.fields.length:Int)≤f then 2 else 0
  |none=>9
 else 9
theorem qH {n:Nat} {v:V} (h:fU n v=true) (hk:v.k=2):0≤v.n∧v.n<n:=by
 simp[fU,hk] at h
 exact h
set_option maxHeartbeats 1000000 in
theorem pn (m:Int) (S:Nat→Prop) (A:Option Addr) (c:Nat) (os:List Ob) (v:V) (f:Int) (w:World) (r:Int) (hE:Hid (bJ os v f=r)) (hv:v.k=2→0≤v.n∧v.n<os.length) (hr:aj obE w S (.slice A os.length c) os):
  Calls Tryd.prog 76 #[.agg #[.int .i64 m,.slice A os.length c],.agg #[.int .i64 v.k,.int .i64 v.n],.int .i64 f] w fun e w'=>e= .returned (.int .i64 r)∧Below w.heap.size w w':=by
 obtain⟨-,h1,h2,h3⟩:=hr.fw;obtain⟨k,y⟩:=v;have hBB:Below w.heap.size w ((w.alloc (.cells #[.int .i64 m,.slice A os.length c] 36)).alloc (.cells #[.int .i64 k,.int .i64 y] 47)):=((Below.refl _ _).alloc (Nat.le_refl _) _).alloc (by simp) _;by_cases hk:k=2
 ·subst hk;obtain⟨l1,l2⟩:=hv rfl;simp only at l1 l2;obtain⟨i,rfl⟩:=Int.eq_ofNat_of_zero_le l1;have hi:i<os.length:=(by omega);obtain⟨o,ho⟩:∃o,os[i]?=some o:=⟨os[i],zD hi⟩;obtain⟨b,p,B,d,rfl,_,hbs,g0,g1,hf⟩:=hr.at_o ho;obtain⟨-,f1,f2,f3⟩:=hf.fw;have Ho:=zG ho;clear hr hf ho hv f3 h3
  cases hd:o.dead
  all_goals
   rw[hd] at g1;have Hd:=zG hd;clear hd
  ·by_cases hfo:0≤f∧f<(o.fields.length:Int)
   ·obtain⟨e1,e2⟩:=hfo;have hr0:r=0:=(by have:=hE.out;simp[bJ,Ho.out,Hd.out] at this;rw[if_neg (by omega)] at this;exact this.symm);subst hr0;clear hE;go_enter Tryd.func76,Tryd.ntmps76
    go_wp2
    go_ret
    exact⟨rfl,hBB⟩
   ·have hr0:r=2:=(by have:=hE.out;simp[bJ,Ho.out,Hd.out] at this;rw[if_pos (by omega)] at this;exact this.symm);subst hr0;clear hE;rcases (by omega:f<0∨(0≤f∧(o.fields.length:Int)≤f)) with e1|e1
    all_goals
     clear hfo;go_enter Tryd.func76,Tryd.ntmps76
     go_wp2
     go_ret
     exact⟨rfl,hBB⟩
  ·have hr0:r=10:=(by have:=hE.out;simp[bJ,Ho.out,Hd.out] at this;exact this.symm);subst hr0;clear hE;go_enter Tryd.func76,Tryd.ntmps76
   go_wp2
   go_ret
   exact⟨rfl,hBB⟩
 ·have hr0:r=9:=(by have:=hE.out;simp[bJ,hk] at this;exact this.symm);subst hr0;have hkb:(k !=2)=true:=(by simpa using hk);clear hE hk hv hr h3;go_enter Tryd.func76,Tryd.ntmps76
  go_wp2
  go_ret
  exact⟨rfl,hBB⟩
theorem dN (m:Int) (S T:Nat→Prop) (A R:Option Addr) (c d:Nat) (os:List Ob) (rs:List V) (w:World) (n:Int) (hn:Hid (checkN ⟨m,os⟩ rs=n)) (ho:aj obE w S (.slice A os.length c) os) (hq:aj vE w T (.slice R rs.length d) rs):
  Calls Tryd.prog 67 #[.agg #[.int .i64 m,.slice A os.length c],.slice R rs.length d] w fun e w'=>e= .returned (.int .i64 n)∧Below w.heap.size w w':=hn.out ▸ check_any m S T A R c d os rs w ho hq
theorem oP {w:World} {b:Nat} {v:V} {t:TypeId} (h:w.heap[b]?=some (.cells #[.int .i64 v.k,.int .i64 v.n] t (0,0))):aj vE w (fun _=>True) (.slice (some ⟨b,0,none⟩) [v].length 1) [v]:=
 ⟨_,1,rfl,Nat.le_refl _,by unfold maxLen;omega,by simp[vE],fun _=>⟨b,0,rfl,trivial,fun i x hx=>by
  cases i with
  |zero=>
   simp at hx
   subst hx;refine⟨_,rfl,rfl,fun j u hu=>?_⟩;rw[cell_of_row w b _ _ _ _ h];simp only[Nat.zero_mul,Nat.zero_add];simpa using hu
  |succ n=>simp at hx⟩⟩
def fieldAt (os:List Ob) (v:V) (f:Int):V:=((os[v.n.toNat]?).bind (fun o=>o.fields[f.toNat]?)).getD ⟨0,0⟩
def fP (m:Int) (os:List Ob) (v:V) (f:Int):V:=if hpB ⟨m,os⟩ [v]=true∧bJ os v f=0 then fieldAt os v f else ⟨0,0⟩
def jC (m:Int) (os:List Ob) (v:V) (f:Int):Int:=if hpB ⟨m,os⟩ [v]=true then bJ os v f else 8
theorem mH {os:List Ob} {v:V} {f:Int} (h:bJ os v f=0):v.k=2∧∃o,os[v.n.toNat]?=some o∧0≤f∧f<o.fields.length∧o.dead=false:=by
 unfold bJ at h;split at h
 ·rename_i hk
  split at h
  ·rename_i o ho
   split at h
   ·omega
   ·split at h
    ·omega
    ·rename_i hd hf
     exact⟨hk,o,ho,by omega,by omega,by simpa using hd⟩
  ·omega
 ·omega
end
section
open Go.RowKit
theorem rV {w:World} {g:Nat} {a b x y:Value} {t:TypeId} (h:w.heap[g]?=some (.cells #[a,b] t (0,0))):
  ((w.setCell ⟨g,0,none⟩ x).setCell ⟨g,1,none⟩ y).cell? ⟨g,0,none⟩=some x∧((w.setCell ⟨g,0,none⟩ x).setCell ⟨g,1,none⟩ y).cell? ⟨g,1,none⟩=some y:=by
 have h2:=jK (i:=1) (jK (i:=0) h x) y;exact⟨cell_of_row _ g 0 _ _ _ h2,cell_of_row _ g 1 _ _ _ h2⟩
set_option maxRecDepth 100000 in
set_option maxHeartbeats 2000000 in
theorem get_any (m:Int) (S:Nat→Prop) (A:Option Addr) (c:Nat) (os:List Ob) (v:V) (f:Int) (w:World) (hr:aj obE w S (.slice A os.length c) os):
  Calls Tryd.prog 100 #[.agg #[.int .i64 m,.slice A os.length c],.agg #[.int .i64 v.k,.int .i64 v.n],.int .i64 f] w fun e w'=>
   e= .returned (.tuple #[.agg #[.int .i64 (fP m os v f).k,.int .i64 (fP m os v f).n],.int .i64 (jC m os v f)])∧Below w.heap.size w w':=by
 have Hr:=zG hr;obtain⟨-,h1,h2,h3⟩:=hr.fw;clear hr h3;have hB:Below w.heap.size w ((((w.alloc (.cells #[.int .i64 m,.slice A os.length c] 36)).alloc (.cells #[.int .i64 v.k,.int .i64 v.n] 47)).alloc (.cells #[.int .i64 0,.int .i64 0] 47)).alloc (.cells #[.int .i64 v.k,.int .i64 v.n] 47)):=
  ((((Below.refl _ _).alloc (Nat.le_refl _) _).alloc (by simp) _).alloc (by simp;omega) _).alloc (by simp;omega) _
 cases hp:hpB ⟨m,os⟩ [v]
 ·have hc:checkN ⟨m,os⟩ [v]=8:=(by simp[checkN,hp]);have e1:fP m os v f=⟨0,0⟩:=(by simp[fP,hp]);have e2:jC m os v f=8:=(by simp[jC,hp]);rw[e1,e2];have Hc:=zG hc;clear hp hc e1 e2;go_enter Tryd.func100,Tryd.ntmps100
  go_wp2_with fail;refine(dN m _ _ A _ c 1 os [v] _ _ Hc (Hr.below (by decide) hB) (oP (gG (by simp)))).mono ?_;rintro e w1 ⟨rfl,hb1⟩;have hq:w1.heap[w.heap.size+1+1]?=some (.cells #[.int .i64 0,.int .i64 0] 47 (0,0)):=(hb1.block _ (by simp)).trans (nT (gG (by simp)));have q4:w1.cell? ⟨w.heap.size+1+1,0,none⟩=some (.int .i64 0):=cell_of_row w1 _ 0 _ _ _ hq;have q5:w1.cell? ⟨w.heap.size+1+1,1,none⟩=some (.int .i64 0):=cell_of_row w1 _ 1 _ _ _ hq;have f4:w1.frozen? ⟨w.heap.size+1+1,0,none⟩=false:=(by simp[World.frozen?,hq]);have f5:w1.frozen? ⟨w.heap.size+1+1,1,none⟩=false:=(by simp[World.frozen?,hq]);have hbb:Below w.heap.size w w1:=hB.trans (hb1.mono hB.size);obtain⟨r0,r1⟩:=rV (x:= .int .i64 0) (y:= .int .i64 0) hq;have R0:=zG r0;have R1:=zG r1;clear hq r0 r1;go_wp2
  exact bodyPost_ret (v:= .tuple #[.agg #[.int .i64 0,.int .i64 0],.int .i64 8]) (by simp[results,Tryd.results100,go_sem,R0.out,R1.out]) rfl ⟨rfl,(hbb.setCell (by simp;omega) _).setCell (by simp;omega) _⟩
 ·have hc:checkN ⟨m,os⟩ [v]=0:=(by simp[checkN,hp]);have hval:v.k=2→0≤v.n∧v.n<os.length:=fun hk=>qH (by simp[hpB] at hp;exact hp.2) hk;have eE:jC m os v f=bJ os v f:=(by simp[jC,hp]);have Hc:=zG hc;have Hv:=zG hval;have Hp:=zG hp;clear hp hc hval;by_cases ho:bJ os v f=0
  ·obtain⟨hk,o,hoo,e1,e2,_⟩:=mH ho;obtain⟨l1,l2⟩:=Hv.out hk;obtain⟨vk,vn⟩:=v;simp only at hk l1 l2 hoo;subst hk;obtain⟨i,rfl⟩:=Int.eq_ofNat_of_zero_le l1;obtain⟨j,rfl⟩:=Int.eq_ofNat_of_zero_le e1;simp only[Int.toNat_natCast] at hoo;have hj:j<o.fields.length:=(by omega);have hi:i<os.length:=(by omega);obtain⟨x,hx⟩:∃x,o.fields[j]?=some x:=⟨o.fields[j],zD hj⟩;have e3:fP m os ⟨2,(i:Int)⟩ (j:Int)=x:=by
    rw[fP,if_pos ⟨Hp.out,ho⟩];simp[fieldAt,hoo,hx]
   rw[e3,eE,ho];have Hr2:=zG ho;have Ho:=zG hoo;have Hx:=zG hx;clear e3 eE ho hoo hx;go_enter Tryd.func100,Tryd.ntmps100
   go_wp2_with fail;refine(dN m _ _ A _ c 1 os [⟨2,(i:Int)⟩] _ _ Hc (Hr.below (by decide) hB) (oP (gG (by simp)))).mono ?_;rintro e w0 ⟨rfl,hb0⟩;have p0:w0.cell? ⟨w.heap.size,0,none⟩=some (.int .i64 m):=(hb0.cell (p:=⟨w.heap.size,0,none⟩) (by simp;omega)).trans (by simp[go_sem]);have p1:w0.cell? ⟨w.heap.size,1,none⟩=some (.slice A os.length c):=(hb0.cell (p:=⟨w.heap.size,1,none⟩) (by simp;omega)).trans (by simp[go_sem]);have p2:w0.cell? ⟨w.heap.size+1,0,none⟩=some (.int .i64 2):=(hb0.cell (p:=⟨w.heap.size+1,0,none⟩) (by simp)).trans (by simp[go_sem]);have p3:w0.cell? ⟨w.heap.size+1,1,none⟩=some (.int .i64 (i:Int)):=(hb0.cell (p:=⟨w.heap.size+1,1,none⟩) (by simp)).trans (by simp[go_sem]);have hz0:w.heap.size+1+1+1+1≤w0.heap.size:=(by have:=hb0.size;simpa using this);go_wp2_with fail;refine(pn m _ A c os ⟨2,(i:Int)⟩ (j:Int) _ 0 Hr2 (fun _=>⟨l1,l2⟩) ((Hr.below (by decide) hB).below (by decide) hb0)).mono ?_;rintro e w1 ⟨rfl,hb1⟩;have hq:w1.heap[w.heap.size+1+1]?=some (.cells #[.int .i64 0,.int .i64 0] 47 (0,0)):=(hb1.block _ (by omega)).trans ((hb0.block _ (by simp)).trans (nT (gG (by simp))));have q4:w1.cell? ⟨w.heap.size+1+1,0,none⟩=some (.int .i64 0):=cell_of_row w1 _ 0 _ _ _ hq;have q5:w1.cell? ⟨w.heap.size+1+1,1,none⟩=some (.int .i64 0):=cell_of_row w1 _ 1 _ _ _ hq;have f4:w1.frozen? ⟨w.heap.size+1+1,0,none⟩=false:=(by simp[World.frozen?,hq]);have f5:w1.frozen? ⟨w.heap.size+1+1,1,none⟩=false:=(by simp[World.frozen?,hq]);have hbb:Below w.heap.size w w1:=(hB.trans (hb0.mono hB.size)).trans (hb1.mono (by omega));obtain⟨b,p,B,d,rfl,_,hbs,g0,g1,hfl⟩:=Hr.at_o Ho.out;obtain⟨b2,p2',rfl,_,hbs2,y0,y1⟩:=hfl.at_v Hx.out;have z1:w1.cell? ⟨b,p+i*2,none⟩=_:=(hbb.cell (p:=⟨b,p+i*2,none⟩) hbs).trans g0;have z2:w1.cell? ⟨b2,p2'+j*2,none⟩=_:=(hbb.cell (p:=⟨b2,p2'+j*2,none⟩) hbs2).trans y0;have z3:w1.cell? ⟨b2,p2'+j*2+1,none⟩=_:=(hbb.cell (p:=⟨b2,p2'+j*2+1,none⟩) hbs2).trans y1;have z4:w1.cell? ⟨w.heap.size,1,none⟩=_:=(hb1.cell (p:=⟨w.heap.size,1,none⟩) (by show w.heap.size<w0.heap.size;omega)).trans p1;have z5:w1.cell? ⟨w.heap.size+1,1,none⟩=_:=(hb1.cell (p:=⟨w.heap.size+1,1,none⟩) (by show w.heap.size+1<w0.heap.size;omega)).trans p3;clear p0 p1 p2 p3 g0 g1 hfl y0 y1;have i1:(0:Int)≤(i:Int):=(by omega);have i2:(i:Int)<(os.length:Int):=(by omega);have j1:(0:Int)≤(j:Int):=(by omega);have j2:(j:Int)<(o.fields.length:Int):=(by omega);obtain⟨r0,r1⟩:=rV (x:= .int .i64 x.k) (y:= .int .i64 x.n) hq;have R0:=zG r0;have R1:=zG r1;clear hq r0 r1;go_wp2
   exact bodyPost_ret (v:= .tuple #[.agg #[.int .i64 x.k,.int .i64 x.n],.int .i64 0]) (by simp[results,Tryd.results100,go_sem,R0.out,R1.out]) rfl ⟨rfl,(hbb.setCell (by simp;omega) _).setCell (by simp;omega) _⟩
  ·have e1:fP m os v f=⟨0,0⟩:=(by simp[fP,ho]);have hne:(bJ os v f !=0)=true:=(by simpa using ho);rw[e1,eE];clear e1 eE ho;obtain⟨r,hr⟩:∃r,bJ os v f=r:=⟨_,rfl⟩;have Hr2:=zG hr;rw[hr] at hne;rw[hr];clear hr;go_enter Tryd.func100,Tryd.ntmps100
   go_wp2_with fail;refine(dN m _ _ A _ c 1 os [v] _ _ Hc (Hr.below (by decide) hB) (oP (gG (by simp)))).mono ?_;rintro e w0 ⟨rfl,hb0⟩;have p0:w0.cell? ⟨w.heap.size,0,none⟩=some (.int .i64 m):=(hb0.cell (p:=⟨w.heap.size,0,none⟩) (by simp;omega)).trans (by simp[go_sem]);have p1:w0.cell? ⟨w.heap.size,1,none⟩=some (.slice A os.length c):=(hb0.cell (p:=⟨w.heap.size,1,none⟩) (by simp;omega)).trans (by simp[go_sem]);have p2:w0.cell? ⟨w.heap.size+1,0,none⟩=some (.int .i64 v.k):=(hb0.cell (p:=⟨w.heap.size+1,0,none⟩) (by simp)).trans (by simp[go_sem]);have p3:w0.cell? ⟨w.heap.size+1,1,none⟩=some (.int .i64 v.n):=(hb0.cell (p:=⟨w.heap.size+1,1,none⟩) (by simp)).trans (by simp[go_sem]);have hz0:w.heap.size+1+1+1+1≤w0.heap.size:=(by have:=hb0.size;simpa using this);go_wp2_with fail;refine(pn m _ A c os v f _ r Hr2 Hv.out ((Hr.below (by decide) hB).below (by decide) hb0)).mono ?_;rintro e w1 ⟨rfl,hb1⟩;have hq:w1.heap[w.heap.size+1+1]?=some (.cells #[.int .i64 0,.int .i64 0] 47 (0,0)):=(hb1.block _ (by omega)).trans ((hb0.block _ (by simp)).trans (nT (gG (by simp))));have q4:w1.cell? ⟨w.heap.size+1+1,0,none⟩=some (.int .i64 0):=cell_of_row w1 _ 0 _ _ _ hq;have q5:w1.cell? ⟨w.heap.size+1+1,1,none⟩=some (.int .i64 0):=cell_of_row w1 _ 1 _ _ _ hq;have f4:w1.frozen? ⟨w.heap.size+1+1,0,none⟩=false:=(by simp[World.frozen?,hq]);have f5:w1.frozen? ⟨w.heap.size+1+1,1,none⟩=false:=(by simp[World.frozen?,hq]);have hbb:Below w.heap.size w w1:=(hB.trans (hb0.mono hB.size)).trans (hb1.mono (by omega));obtain⟨r0,r1⟩:=rV (x:= .int .i64 0) (y:= .int .i64 0) hq;have R0:=zG r0;have R1:=zG r1;clear hq r0 r1;go_wp2
   exact bodyPost_ret (v:= .tuple #[.agg #[.int .i64 0,.int .i64 0],.int .i64 r]) (by simp[results,Tryd.results100,go_sem,R0.out,R1.out]) rfl ⟨rfl,(hbb.setCell (by simp;omega) _).setCell (by simp;omega) _⟩
end
section
open Go.RowKit
def eY (os:List Ob) (i j:Nat) (x:V):List Ob:=os.modify i (fun o=>⟨o.fields.set j x,o.dead⟩)
def gz (h:Hp) (v:V) (f:Int) (x:V):Int:=if hpB h [v,x]=false then 8 else bJ h.ah v f
def setH (h:Hp) (v:V) (f:Int) (x:V):Hp:=if gz h v f x=0 then ⟨h.most,eY h.ah v.n.toNat f.toNat x⟩ else ⟨0,[]⟩
def SetD (w:World) (h:Hp) (v:V) (f:Int) (x:V) (en:Ending) (w':World):Prop:=
 ∃u,en= .returned (.tuple #[u,.int .i64 (gz h v f x)])∧RdH w' w.heap.size u (setH h v f x)∧Below w.heap.size w w'
theorem fV (os:List Ob) (i j:Nat) (x:V):(eY os i j x).length=os.length:=by simp[eY]
theorem iU {os:List Ob} {i j k:Nat} {x:V}:(eY os i j x)[k]?=if i=k then(os[k]?).map (fun o=>⟨o.fields.set j x,o.dead⟩) else os[k]?:=by
 simp only[eY,List.getElem?_modify];split
 ·rfl
 ·cases os[k]?<;>rfl
theorem rowsOf_same {vs:List Value} {os os':List Ob} (h:∀i:Nat,(os'[i]?).map (·.dead)=(os[i]?).map (·.dead)):rowsOf vs os'=rowsOf vs os:=by
 apply List.ext_getElem?
 intro i;simp only[rowsOf,List.getElem?_zipWith];have:=h i
 cases vs[i]? with
 |none=>rfl
 |some u=>
  cases h1:os'[i]?<;>cases h2:os[i]?<;>simp[h1,h2] at this ⊢
  exact this
theorem rows_setOs {vs:List Value} {os:List Ob} {i j:Nat} {x:V}:rowsOf vs (eY os i j x)=rowsOf vs os:=rowsOf_same fun k=>by
 rw[iU];split
 ·cases os[k]?<;>rfl
 ·rfl
theorem tL {w:World} {base:Nat} {e:TypeId} {size:Nat} {g n c:Nat} {xs:List Value} (h:w.ownsRow base e size (.slice (some ⟨g,0,none⟩) n c) n xs) (i:Nat):w.frozen? ⟨g,i,none⟩=false:=by
 rcases h.2 with⟨h0,_⟩|⟨g',cap,cur,hv,_,hh,_⟩
 ·cases h0
 ·cases hv
  simp[World.frozen?,hh]
theorem oJ {w:World} {base:Nat} {e:TypeId} {size:Nat} {g n c:Nat} {xs:List Value} (h:w.ownsRow base e size (.slice (some ⟨g,0,none⟩) n c) n xs) {i:Nat} {u:Value} (hi:xs[i]?=some u):w.cell? ⟨g,i,none⟩=some u:=by
 have:=h.cells (g:=g) rfl i u hi;rw[addr_add] at this;simpa using this
theorem jH {w:World} {base:Nat} {e:TypeId} {size:Nat} {A:Option Addr} {n c:Nat} {xs:List Value} (h:w.ownsRow base e size (.slice A n c) n xs) (hn:0<n):∃g,A=some ⟨g,0,none⟩∧base≤g:=by
 rcases h.2 with⟨h0,h1⟩|⟨g',cap,cur,hv,hb,hh,_⟩
 ·omega
 ·cases hv
  exact⟨g',rfl,hb⟩
theorem blk_ne {w:World} {a b:Nat} {cs cs':Array Value} {t t':TypeId} {fr fr':Nat×Nat} (h:w.heap[a]?=some (.cells cs t fr)) (h':w.heap[b]?=some (.cells cs' t' fr')) (ht:t≠t'):a≠b:=fun e=>by
 subst e;rw[h] at h';injection h' with h'
 injection h' with _ h'
 exact ht h'
theorem dQ.setV {w:World} {base:Nat} {g n c:Nat} {xs:List V} (h:dQ vE w (fun _=>False) base 47 (.slice (some ⟨g,0,none⟩) n c) xs) (hn:n=xs.length) {j:Nat} (hj:j<xs.length) (x:V):
  dQ vE ((w.setCell ⟨g,j*2,none⟩ (.int .i64 x.k)).setCell ⟨g,j*2+1,none⟩ (.int .i64 x.n)) (fun _=>False) base 47 (.slice (some ⟨g,0,none⟩) n c) (xs.set j x):=by
 subst hn;obtain⟨css,hH,hr,hs⟩:=h;obtain⟨y,hy⟩:∃y,xs[j]?=some y:=⟨xs[j],zD hj⟩;have hjc:j<css.length:=(by rw[hH.len];exact hj);have hc:css[j]?=some css[j]:=zD hjc;have hcs:css[j]= [.int .i64 y.k,.int .i64 y.n]:=(hH.each j y _ hy hc).2;have h1:=kG (kG hr (j*2) (.int .i64 x.k)) (j*2+1) (.int .i64 x.n);have hf:(css.flatten.set (j*2) (Value.int .i64 x.k)).set (j*2+1) (.int .i64 x.n)=(css.set j [.int .i64 x.k,.int .i64 x.n]).flatten:=by
  have e1:=jG (size:=2) (i:=j) (j:=0) (Value.int .i64 x.k) hH.size hc (by omega);have hsz:∀cs∈css.set j (css[j].set 0 (.int .i64 x.k)),cs.length=2:=fun cs hm=>by
   rcases List.mem_or_eq_of_mem_set hm with hm|rfl
   ·exact hH.size cs hm
   ·rw[hcs];rfl
  have e2:=jG (size:=2) (i:=j) (j:=1) (cs:=css[j].set 0 (.int .i64 x.k)) (Value.int .i64 x.n) hsz (by simp[hjc]) (by omega);rw[Nat.add_zero] at e1;rw[←e1,←e2,List.set_set,hcs];rfl
 rw[hf] at h1;refine⟨css.set j [.int .i64 x.k,.int .i64 x.n],⟨by simp[hH.len],fun i z cs hz hcz=>?_⟩,by simpa using h1,by simpa using hs⟩;by_cases hij:j=i
 ·subst hij;rw[List.getElem?_set_self hj] at hz;rw[List.getElem?_set_self hjc] at hcz;injection hz with hz
  injection hcz with hcz
  subst hz;subst hcz;exact⟨rfl,rfl⟩
 ·rw[List.getElem?_set_ne hij] at hz hcz;exact hH.each i z cs hz hcz
theorem gD.store {w:World} {base:Nat} {A:Option Addr} {C:Nat} {os:List Ob} {vs:List Value} (h:gD w (fun _=>False) base (.slice A os.length C) os vs os.length) {i j:Nat} {o:Ob} (ho:os[i]?=some o) (hj:j<o.fields.length) (x:V):
  ∃g q c y z,A=some ⟨g,0,none⟩∧base≤g∧w.cell? ⟨g,i*2,none⟩=some (.slice (some ⟨q,0,none⟩) o.fields.length c)∧base≤q∧w.frozen? ⟨q,j*2,none⟩=false∧w.frozen? ⟨q,j*2+1,none⟩=false∧
   w.cell? ⟨q,j*2,none⟩=some y∧w.cell? ⟨q,j*2+1,none⟩=some z∧
   (∃cs,w.heap[g]?=some (.cells cs 96 (0,0)))∧(∃cs,w.heap[q]?=some (.cells cs 47 (0,0)))∧
   gD ((w.setCell ⟨q,j*2,none⟩ (.int .i64 x.k)).setCell ⟨q,j*2+1,none⟩ (.int .i64 x.n)) (fun _=>False) base (.slice A os.length C) (eY os i j x) vs (eY os i j x).length:=by
 have hi:i<os.length:=(zE.1 ho).1;obtain⟨g,rfl,hg⟩:=jH h.row (by omega);obtain⟨u,hu⟩:∃u,vs[i]?=some u:=⟨vs[i]'(by rw[h.len];exact hi),zD _⟩;have hd:=h.done i o u hi ho hu;obtain⟨B,c,rfl⟩:=hd.form;have hd':=hd;obtain⟨css,hH,hr,hs⟩:=hd';obtain⟨q,rfl,hq⟩:=jH hr (by omega);obtain⟨yv,hyv⟩:∃y,o.fields[j]?=some y:=⟨o.fields[j],zD hj⟩;have hjc:j<css.length:=(by rw[hH.len];exact hj);have hc:css[j]?=some css[j]:=zD hjc;have hcs:css[j]= [.int .i64 yv.k,.int .i64 yv.n]:=(hH.each j yv _ hyv hc).2;rw[hcs] at hc;have k0:=oJ hr (jT hH.size hc (j:=0) rfl);have k1:=oJ hr (jT hH.size hc (j:=1) rfl);refine⟨g,q,c,_,_,rfl,hg,oJ h.row (jT (oC vs os) (nA ho hu) (j:=0) rfl),hq,tL hr _,tL hr _,k0,k1,own_type h.row rfl,own_type hr rfl,?_⟩;have hgq:g≠q:=fun e=>own_ne h.row hr (by decide) (b:=g) rfl (by simp[Value.ownBlock,e]);have hkeep:∀b,b≠q→((w.setCell ⟨q,j*2,none⟩ (.int .i64 x.k)).setCell ⟨q,j*2+1,none⟩ (.int .i64 x.n)).heap[b]?=w.heap[b]?:=fun b hb=>
  (Below.heap_setCell _ _ _ _ hb).trans (Below.heap_setCell _ _ _ _ hb)
 refine⟨by rw[fV];exact h.len,?_,fun i' p z' hi' hp hz=>?_,fun i' p z' hi' hp _=>?_,fun a b z z' bl ha hb hab hz hz' h1 h2=>?_⟩
 ·rw[rows_setOs,fV];exact fH h.row (Nat.le_refl _) (fun b hb=>hkeep b (by simp[Value.ownBlock] at hb;omega))
 ·rw[fV] at hi';rw[iU] at hp;by_cases hii:i=i'
  ·subst hii;rw[if_pos rfl,ho] at hp;injection hp with hp
   rw[hu] at hz;injection hz with hz
   subst hp;subst hz;exact hd.setV rfl hj x
  ·rw[if_neg hii] at hp;have hd2:=h.done i' p z' hi' hp hz;refine hd2.keep (Nat.le_refl _) (fun b hb=>hkeep b (fun e=>?_)) (fun _ _ h=>h.elim);subst e;exact h.apart i i' _ z' b hi hi' hii hu hz (by simp[Value.ownBlock]) hb
 ·have:=(zE.1 hp).1;omega
 ·rw[fV] at ha hb;exact h.apart a b z z' bl ha hb hab hz hz' h1 h2
theorem gD.draw {w:World} {S:Nat→Prop} {base:Nat} {v:Value} {os:List Ob} {vs:List Value} (h:gD w S base v os vs os.length):gD w.drew S base v os vs os.length:=
 gD.keep (w:=w) (Nat.le_refl _) (fun _ _ _=>rfl) h
theorem rd_two {w:World} {b:Nat} {v x:V} {t:TypeId} (h:w.heap[b]?=some (.cells #[.int .i64 v.k,.int .i64 v.n,.int .i64 x.k,.int .i64 x.n] t (0,0))):aj vE w (fun _=>True) (.slice (some ⟨b,0,none⟩) [v,x].length 2) [v,x]:=
 ⟨_,2,rfl,Nat.le_refl _,by unfold maxLen;omega,by simp[vE],fun _=>⟨b,0,rfl,trivial,fun i y hy=>by
  match i,hy with
  |0,hy=>
   cases hy
   exact⟨_,rfl,rfl,fun j u hu=>by
    match j,hu with
    |0,hu=>(cases hu;simp[World.cell?,h,vE])
    |1,hu=>(cases hu;simp[World.cell?,h,vE])⟩
  |1,hy=>
   cases hy
   exact⟨_,rfl,rfl,fun j u hu=>by
    match j,hu with
    |0,hu=>(cases hu;simp[World.cell?,h,vE])
    |1,hu=>(cases hu;simp[World.cell?,h,vE])⟩⟩⟩
end
end Go.Proofs.YtdmocjnjbihloaaDoor
