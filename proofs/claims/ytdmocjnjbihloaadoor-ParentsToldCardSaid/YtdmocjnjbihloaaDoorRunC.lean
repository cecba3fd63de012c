/- The plain functions of acts, so that they can be reckoned: what values lead to is found with a bound. No condition; no run. -/
import Derived.Test.YtdmocjnjbihloaaDoorMayS
namespace Go.Proofs.YtdmocjnjbihloaaDoor
open Go.RowKit
def ledC (os:List Ob):Nat→List V→List Int→List Int
 |0,_,out=>out
 |_+1,[],out=>out
 |f+1,v::q,out=>if fresh out v then ledC os f (q++fieldsOf os v.n) (out++[v.n]) else ledC os f q out
theorem ledC_is {os:List Ob} (hs:∀o∈os,o.fields.length≤4) {q:List V} {out r:List Int} (h:Led os q out r):∀f,q.length+4*(r.length - out.length)<f→ledC os f q out=r:=by
 induction h with
 |done out=>intro f hf;cases f<;>rfl
 | @new v q out r hf h ih=>
  intro f hlt
  cases f with
  |zero=>omega
  |succ f=>
   unfold ledC;rw[if_pos hf];refine ih f ?_;have h4:(fieldsOf os v.n).length≤4:=by
    unfold fieldsOf;split
    ·rename_i o ho;exact hs o (zF ho)
    ·simp
   obtain⟨nw,e⟩:=h.pre;have hl:out.length+1≤r.length:=(by rw[e];simp);simp only[List.length_append,List.length_cons,List.length_nil] at hlt ⊢;omega
 | @old v q out r hf h ih=>
  intro f hlt
  cases f with
  |zero=>omega
  |succ f=>
   unfold ledC;rw[if_neg (by simp[hf])];refine ih f ?_;simp only[List.length_cons] at hlt;omega
def iT (os:List Ob) (rs:List V):List Int:=ledC os (rs.length+241) rs []
theorem lL {h:Hp} {rs:List V} (hp:hpB h rs=true):ay h.ah rs=iT h.ah rs:=by
 obtain⟨l,hl,ht⟩:=kX.led hp;have a:=(aR.1 hp).1;have h60:=a.few;have hlen:=ht.len;rw[dM hl];exact(ledC_is (fun o ho=>(iX.1 (a.ah o ho)).1) hl _ (by simp only[List.length_nil];omega)).symm
theorem transE_C (fr:Hp) (v:V) (tt:Hp):dh fr v tt (ay fr.ah [v])=dh fr v tt (iT fr.ah [v]):=by
 by_cases hp:hpB fr [v]=true
 ·rw[lL hp]
 ·unfold dh;rw[if_pos (by simpa using hp),if_pos (by simpa using hp)]
theorem sZ (fr:Hp) (v:V) (tt:Hp) (move:Bool):bC fr v tt (ay fr.ah [v]) move=bC fr v tt (iT fr.ah [v]) move:=by
 by_cases hp:hpB fr [v]=true
 ·rw[lL hp]
 ·have e1:∀l,dh fr v tt l=8:=fun l=>by unfold dh;rw[if_pos (by simpa using hp)]
  unfold bC;rw[e1,e1,if_neg (by decide),if_neg (by decide)]
theorem transTo_C (fr:Hp) (v:V) (tt:Hp):dA fr v tt (ay fr.ah [v])=dA fr v tt (iT fr.ah [v]):=by
 by_cases hp:hpB fr [v]=true
 ·rw[lL hp]
 ·have e1:∀l,dh fr v tt l=8:=fun l=>by unfold dh;rw[if_pos (by simpa using hp)]
  unfold dA;rw[e1,e1,if_neg (by decide),if_neg (by decide)]
theorem transV_C (fr:Hp) (v:V) (tt:Hp):dX fr v tt (ay fr.ah [v])=dX fr v tt (iT fr.ah [v]):=by
 by_cases hp:hpB fr [v]=true
 ·rw[lL hp]
 ·have e1:∀l,dh fr v tt l=8:=fun l=>by unfold dh;rw[if_pos (by simpa using hp)]
  unfold dX;rw[e1,e1,if_neg (by decide),if_neg (by decide)]
def qI (a:Ac):Ac:=
 if hpB a.heap (aC a)=false then a else
 {a with heap:=gU a.heap (aC a) (iT a.heap.ah (aC a)),regs:=(eT a.heap (aC a) (iT a.heap.ah (aC a))).take 8,box:=(eT a.heap (aC a) (iT a.heap.ah (aC a))).drop 8}
theorem qB:aS=qI:=by
 funext a
 unfold aS qI;by_cases hp:hpB a.heap (aC a)=true
 ·rw[lL hp]
 ·rw[if_pos (by simpa using hp),if_pos (by simpa using hp)]
def nV (a:Ac) (f:Int):Ac:=if bV a.heap f=7 then qI a else a
theorem qh:aD=nV:=by
 funext a f
 unfold aD nV;simp only[qB]
def pF (a:Ac) (f:Int):Int:=bV (nV a f).heap f
theorem nP:bL=pF:=by
 funext a f
 unfold bL pF;simp only[qh]
def rC (a:Ac) (f:Int):V:=bP (nV a f).heap f
theorem uw:fG=rC:=by
 funext a f
 unfold fG rC;simp only[qh]
def lJ (a:Ac) (f:Int):Ac:=if pF a f=0 then(nV a f).af (bX (nV a f).heap f) else nV a f
theorem qm:aL=lJ:=by
 funext a f
 unfold aL lJ;simp only[qh,nP]
def tellAC (a:Ac) (x y:Int):Ac:=
 if pF a 2=0 then((lJ a 2).af (twoH (lJ a 2).heap (rC a 2) x y)).aK ((lJ a 2).box++[rC a 2]) else lJ a 2
theorem tellAC_eq:iK=tellAC:=by
 funext a x y
 unfold iK tellAC;simp only[nP,uw,qm]
def tellWC (W:Wd) (n x y:Int):Wd:=if gV W n then W.put n.toNat (tellAC (W.at_ n.toNat) x y) else W
theorem tellWC_eq:gZ=tellWC:=by
 funext W n x y
 unfold gZ tellWC;simp only[tellAC_eq]
def endWC (W:Wd) (n:Nat) (how:Int):Wd:=tellWC (W.put n (eP (W.at_ n) how)) (W.at_ n).parent n how
theorem endWC_eq:endW=endWC:=by
 funext W n how
 unfold endW endWC;simp only[tellWC_eq]
def spoiltC (h:Hp) (v:V):Bool:=hpB h [v]==false||(iT h.ah [v]).any (aV h.ah)
theorem tV:spoilt=spoiltC:=by
 funext h v
 unfold spoilt spoiltC;by_cases hp:hpB h [v]=true
 ·rw[lL hp]
 ·rw[show hpB h [v]=false by simpa using hp];rfl
def ru (fr:Hp) (v:V) (tt:Hp):Int:=dh fr v tt (iT fr.ah [v])
theorem qj:dU=ru:=by
 funext fr v tt
 unfold dU ru;simp only[transE_C]
def movedWC (W:Wd) (n t:Nat) (r:Int) (move:Bool):Wd:=
 if ru (W.at_ n).heap ((W.at_ n).reg r) (W.at_ t).heap≠0 then W else
 (W.put n ((W.at_ n).af (bC (W.at_ n).heap ((W.at_ n).reg r) (W.at_ t).heap (iT (W.at_ n).heap.ah [(W.at_ n).reg r]) move))).put t
  (((W.put n ((W.at_ n).af (bC (W.at_ n).heap ((W.at_ n).reg r) (W.at_ t).heap (iT (W.at_ n).heap.ah [(W.at_ n).reg r]) move))).at_ t).af (dA (W.at_ n).heap ((W.at_ n).reg r) (W.at_ t).heap (iT (W.at_ n).heap.ah [(W.at_ n).reg r]))
   |>.aK ((W.at_ t).box++[dX (W.at_ n).heap ((W.at_ n).reg r) (W.at_ t).heap (iT (W.at_ n).heap.ah [(W.at_ n).reg r])]))
theorem movedWC_eq:fB=movedWC:=by
 funext W n t r move
 unfold fB movedWC;simp only[qj,sZ,transTo_C,transV_C]
def roomWC (W:Wd) (n t:Nat) (r:Int):Wd:=if ru (W.at_ n).heap ((W.at_ n).reg r) (W.at_ t).heap=7 then W.put t (qI (W.at_ t)) else W
theorem roomWC_eq:iI=roomWC:=by
 funext W n t r
 unfold iI roomWC;simp only[qB,qj]
def sendWC (W:Wd) (n:Nat) (r tt:Int) (move:Bool):Wd:=
 dL (if spoiltC (W.at_ n).heap ((W.at_ n).reg r) then W else if gV W tt=false then W
  else if tt=n∧move=true then W.put n ((W.at_ n).aK ((W.at_ n).box++[(W.at_ n).reg r]))
  else movedWC (roomWC W n tt.toNat r) n tt.toNat r move) n r move
theorem sendWC_eq:fq=sendWC:=by
 funext W n r tt move
 unfold fq sendWC;simp only[tV,movedWC_eq,roomWC_eq]
def spawnEC (W:Wd) (n:Nat) (i:Ins):Int:=
 if W.aa.length=8 then 6 else if ru (W.at_ n).heap ((W.at_ n).reg i.b) ⟨(W.at_ n).heap.most,[]⟩≠0 then 8 else 0
theorem uF:eD=spawnEC:=by
 funext W n i
 unfold eD spawnEC;simp only[qj]
def spawnWC (W:Wd) (n:Nat) (i:Ins):Wd:=
 if spawnEC W n i≠0 then W else
 ⟨W.aa.set n ((((W.at_ n).af (bC (W.at_ n).heap ((W.at_ n).reg i.b) ⟨(W.at_ n).heap.most,[]⟩ (iT (W.at_ n).heap.ah [(W.at_ n).reg i.b]) true)).ai i.b aQ).ai i.a ⟨1,W.aa.length⟩)++
  [dS i.n n (dA (W.at_ n).heap ((W.at_ n).reg i.b) ⟨(W.at_ n).heap.most,[]⟩ (iT (W.at_ n).heap.ah [(W.at_ n).reg i.b])) (dX (W.at_ n).heap ((W.at_ n).reg i.b) ⟨(W.at_ n).heap.most,[]⟩ (iT (W.at_ n).heap.ah [(W.at_ n).reg i.b]))],W.prints⟩
theorem spawnWC_eq:eG=spawnWC:=by
 funext W n i
 unfold eG spawnWC;simp only[uF,sZ,transTo_C,transV_C]
def selfEC (a:Ac) (i:Ins):Int:=
 if i.op=0 then(if(a.reg 0).k=2 then 0 else 8)
 else if i.op=2∨i.op=3∨i.op=4 then(if(a.reg i.a).k≠1∨(a.reg i.b).k≠1 then 8 else if aY (jI i.op (a.reg i.a).n (a.reg i.b).n) then 0 else 7)
 else if i.op=5 then(if(a.reg i.a).k=1 then 0 else 8)
 else if i.op=7 then(if pF a i.n=0 then 0 else 5)
 else if i.op=8∨i.op=10 then(if aH a.heap (a.reg i.b) i.n≠0 then aH a.heap (a.reg i.b) i.n else if i.op=8∧(cz a.heap (a.reg i.b) i.n).k≠1 then 2 else if i.op=10∧(cz a.heap (a.reg i.b) i.n).k≠2 then 3 else 0)
 else if i.op=9∨i.op=11 then(if aH a.heap (a.reg i.a) i.n≠0 then aH a.heap (a.reg i.a) i.n else if(i.op=9∧(a.reg i.b).k≠1)∨(i.op=11∧(a.reg i.b).k≠2) then 8 else 0)
 else if i.op=19 then 1 else 0
theorem selfEC_eq:fA=selfEC:=by
 funext a i
 unfold fA selfEC;simp only[nP]
def selfAC (n:Nat) (a:Ac) (i:Ins):Ac:=
 if i.op=0 then {a with regs:=a.reg 0::List.replicate 7 aQ}
 else if i.op=1 then a.ai i.a ⟨1,i.n⟩
 else if i.op=2∨i.op=3∨i.op=4 then a.ai i.a ⟨1,jI i.op (a.reg i.a).n (a.reg i.b).n⟩
 else if i.op=7 then(if pF a i.n=0 then(lJ a i.n).ai i.a (rC a i.n) else lJ a i.n)
 else if i.op=8∨i.op=10 then a.ai i.a (cz a.heap (a.reg i.b) i.n)
 else if i.op=9∨i.op=11 then a.af (setH a.heap (a.reg i.a) i.n (a.reg i.b))
 else if i.op=12 then a.ai i.a (a.reg i.b)
 else if i.op=18 then a.ai i.a aQ
 else if i.op=16 then a.ai i.a ⟨1,n⟩
 else a
theorem selfAC_eq:eZ=selfAC:=by
 funext n a i
 unfold eZ selfAC;simp only[nP,uw,qm]
def abroadEC (W:Wd) (n:Nat) (i:Ins):Int:=
 if i.op=15 then(if((W.at_ n).reg i.a).k=1 then 0 else 8)
 else if i.op=17 then(if((W.at_ n).reg i.b).k≠2 then 8 else spawnEC W n i)
 else(if((W.at_ n).reg i.a).k≠2∨((W.at_ n).reg i.b).k≠1 then 8 else if spoiltC (W.at_ n).heap ((W.at_ n).reg i.a) then 8 else 0)
theorem abroadEC_eq:fu=abroadEC:=by
 funext W n i
 unfold fu abroadEC;simp only[tV,uF]
def oO (W:Wd) (n:Nat) (i:Ins):Wd:=
 if i.op=15 then(if((W.at_ n).reg i.a).k=1∧W.prints.length<500 then ⟨W.aa,W.prints++[⟨n,((W.at_ n).reg i.a).n⟩]⟩ else W)
 else if i.op=17 then(if((W.at_ n).reg i.b).k≠2 then W else spawnWC W n i)
 else(if((W.at_ n).reg i.a).k≠2∨((W.at_ n).reg i.b).k≠1 then W else sendWC W n i.a ((W.at_ n).reg i.b).n (i.op==13))
theorem sS:bU=oO:=by
 funext W n i
 unfold bU oO;simp only[sendWC_eq,spawnWC_eq]
def didEC (W:Wd) (n:Nat) (i:Ins):Int:=if jv i.op then abroadEC W n i else selfEC (W.at_ n) i
theorem didEC_eq:kF=didEC:=by
 funext W n i
 unfold kF didEC;simp only[selfEC_eq,abroadEC_eq]
def didWC (W:Wd) (n:Nat) (i:Ins):Wd:=
 if jv i.op then(oO W n i).put n (((oO W n i).at_ n).aG (bW (W.at_ n) i)) else W.put n ((selfAC n (W.at_ n) i).aG (bW (W.at_ n) i))
theorem didWC_eq:didW=didWC:=by
 funext W n i
 unfold didW didWC;simp only[selfAC_eq,sS]
def leftWC (W:Wd) (n:Nat) (i:Ins):Wd:=
 if jv i.op then oO W n i else if i.op=7 then W.put n (lJ (W.at_ n) i.n) else W
theorem leftWC_eq:kU=leftWC:=by
 funext W n i
 unfold kU leftWC;simp only[qm,sS]
def stepWC (ps:List (List Ins)) (W:Wd) (n:Nat):Wd:=
 if(W.at_ n).fin≠0 then W
 else if 0≤(W.at_ n).pc then(if didEC W n ((ps.getD (W.at_ n).kind.toNat []).getD (W.at_ n).pc.toNat ⟨0,0,0,0⟩)=0 then didWC W n ((ps.getD (W.at_ n).kind.toNat []).getD (W.at_ n).pc.toNat ⟨0,0,0,0⟩)
  else endWC (leftWC W n ((ps.getD (W.at_ n).kind.toNat []).getD (W.at_ n).pc.toNat ⟨0,0,0,0⟩)) n (didEC W n ((ps.getD (W.at_ n).kind.toNat []).getD (W.at_ n).pc.toNat ⟨0,0,0,0⟩)))
 else match (W.at_ n).box with
  | []=>W
  |v::l=>W.put n ((((W.at_ n).ai 1 v).aK l).aG 0)
theorem stepWC_eq:stepW=stepWC:=by
 funext ps W n
 unfold stepW stepWC;simp only[endWC_eq,didEC_eq,didWC_eq,leftWC_eq];rfl
def actWC (ps:List (List Ins)) (W:Wd) (d:ig):Wd:=
 if(W.aa.length:Int)≤d.cK then W
 else if d.kind=1 then stepWC ps W d.cK.toNat
 else if d.kind=2 then W.put d.cK.toNat (qI (W.at_ d.cK.toNat))
 else tellWC W d.cK d.n d.m
theorem actWC_eq:iY=actWC:=by
 funext ps W d
 unfold iY actWC;simp only[qB,tellWC_eq,stepWC_eq]
end Go.Proofs.YtdmocjnjbihloaaDoor
