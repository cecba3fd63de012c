/- Acts that go well, reckoned where numbers are open; what the echo program tells. In plain Lean. No condition; no run. -/
import Derived.Test.YtdmocjnjbihloaaDoorEchoP
import Derived.Test.YtdmocjnjbihloaaDoorLikeX
namespace Go.Proofs.YtdmocjnjbihloaaDoor
open Go.RowKit
section
variable {ps:List (List Ins)} {W W':Wd} {n:Int} {a b:Ac} {i:Ins} {q:Bool} {m:Nat} {d:ig}
def selfX (q:Bool) (a:Ac) (i:Ins):Option Ac:=
 if i.op=0 then(if(a.reg 0).k=2 then some {a with regs:=a.reg 0::List.replicate 7 aQ} else none)
 else if i.op=1 then some (a.ai i.a ⟨1,i.n⟩)
 else if i.op=2 then(if q=true∧(a.reg i.a).k=1∧(a.reg i.b).k=1 then some (a.ai i.a ⟨1,jI 2 (a.reg i.a).n (a.reg i.b).n⟩) else none)
 else if i.op=5 then(if(a.reg i.a).k=1 then some a else none)
 else if i.op=7 then(if(1≤i.n∧i.n≤4)∧(a.heap.ah.length:Int)<a.heap.most then some ((a.af ⟨a.heap.most,a.heap.ah++[di i.n.toNat]⟩).ai i.a ⟨2,a.heap.ah.length⟩) else none)
 else if i.op=8 then(if bJ a.heap.ah (a.reg i.b) i.n=0∧(fieldAt a.heap.ah (a.reg i.b) i.n).k=1 then some (a.ai i.a (fieldAt a.heap.ah (a.reg i.b) i.n)) else none)
 else if i.op=9 then(if bJ a.heap.ah (a.reg i.a) i.n=0∧(a.reg i.b).k=1 then some (a.af ⟨a.heap.most,eY a.heap.ah (a.reg i.a).n.toNat i.n.toNat (a.reg i.b)⟩) else none)
 else none
theorem got_zero (ha:bu ps n a) {r j:Int} (h:bJ a.heap.ah (a.reg r) j=0):aH a.heap (a.reg r) j=0∧cz a.heap (a.reg r) j=fieldAt a.heap.ah (a.reg r) j:=by
 have hp:=LkA.rH ha r;have hg:jC a.heap.most a.heap.ah (a.reg r) j=0:=(by unfold jC;rw[if_pos hp];exact h);constructor
 ·unfold aH;rw[if_pos hg]
 ·unfold cz fP;rw[if_pos ⟨hp,h⟩]
theorem room_given (ha:bu ps n a) {f:Int} (h1:1≤f∧f≤4) (h2:(a.heap.ah.length:Int)<a.heap.most):aD a f=a∧bL a f=0∧aL a f=a.af ⟨a.heap.most,a.heap.ah++[di f.toNat]⟩∧fG a f=⟨2,a.heap.ah.length⟩:=by
 have he:bV a.heap f=0:=(by rw[ha.alloc_e,if_neg (by omega),if_neg (by omega)]);have hr:aD a f=a:=(by unfold aD;rw[if_neg (by rw[he];decide)]);have hg:bL a f=0:=(by unfold bL;rw[hr];exact he);refine⟨hr,hg,?_,?_⟩
 ·unfold aL;rw[if_pos hg,hr];unfold bX;rw[if_pos he]
 ·unfold fG;rw[hr];unfold bP;rw[if_pos he]
theorem selfX_ok (ha:bu ps n a) (m:Nat) (hs:q=true→i.op=2→aY (jI 2 (a.reg i.a).n (a.reg i.b).n)=true) (h:selfX q a i=some b):fA a i=0∧eZ m a i=b∧jv i.op=false:=by
 unfold selfX at h;by_cases h0:i.op=0
 ·rw[if_pos h0] at h;by_cases hk:(a.reg 0).k=2
  ·rw[if_pos hk] at h;injection h with h
   exact⟨by unfold fA;rw[if_pos h0,if_pos hk],by unfold eZ;rw[if_pos h0];exact h,by rw[h0];rfl⟩
  ·rw[if_neg hk] at h;cases h
 rw[if_neg h0] at h;by_cases h1:i.op=1
 ·rw[if_pos h1] at h;injection h with h
  exact⟨by unfold fA;rw[if_neg h0,if_neg (by omega),if_neg (by omega),if_neg (by omega),if_neg (by omega),if_neg (by omega),if_neg (by omega)],by unfold eZ;rw[if_neg h0,if_pos h1];exact h,by rw[h1];rfl⟩
 rw[if_neg h1] at h;by_cases h2:i.op=2
 ·rw[if_pos h2] at h;by_cases hk:q=true∧(a.reg i.a).k=1∧(a.reg i.b).k=1
  ·rw[if_pos hk] at h;injection h with h
   exact⟨by unfold fA;rw[if_neg h0,if_pos (.inl h2),if_neg (by rintro (e|e);exact e hk.2.1;exact e hk.2.2),if_pos (by rw[h2];exact hs hk.1 h2)],by unfold eZ;rw[if_neg h0,if_neg h1,if_pos (.inl h2),h2];exact h,by rw[h2];rfl⟩
  ·rw[if_neg hk] at h;cases h
 rw[if_neg h2] at h;by_cases h5:i.op=5
 ·rw[if_pos h5] at h;by_cases hk:(a.reg i.a).k=1
  ·rw[if_pos hk] at h;injection h with h
   exact⟨by unfold fA;rw[if_neg h0,if_neg (by omega),if_pos h5,if_pos hk],by unfold eZ;rw[if_neg h0,if_neg h1,if_neg (by omega),if_neg (by omega),if_neg (by omega),if_neg (by omega),if_neg (by omega),if_neg (by omega),if_neg (by omega)];exact h,by rw[h5];rfl⟩
  ·rw[if_neg hk] at h;cases h
 rw[if_neg h5] at h;by_cases h7:i.op=7
 ·rw[if_pos h7] at h;by_cases hk:(1≤i.n∧i.n≤4)∧(a.heap.ah.length:Int)<a.heap.most
  ·rw[if_pos hk] at h;injection h with h
   obtain⟨-,g2,g3,g4⟩:=room_given ha hk.1 hk.2;exact⟨by unfold fA;rw[if_neg h0,if_neg (by omega),if_neg h5,if_pos h7,if_pos g2],by unfold eZ;rw[if_neg h0,if_neg h1,if_neg (by omega),if_pos h7,if_pos g2,g3,g4];exact h,by rw[h7];rfl⟩
  ·rw[if_neg hk] at h;cases h
 rw[if_neg h7] at h;by_cases h8:i.op=8
 ·rw[if_pos h8] at h;by_cases hk:bJ a.heap.ah (a.reg i.b) i.n=0∧(fieldAt a.heap.ah (a.reg i.b) i.n).k=1
  ·rw[if_pos hk] at h;injection h with h
   obtain⟨g1,g2⟩:=got_zero ha hk.1;exact⟨by unfold fA;rw[if_neg h0,if_neg (by omega),if_neg h5,if_neg h7,if_pos (.inl h8),if_neg (fun e=>e g1),if_neg (fun e=>e.2 (by rw[g2];exact hk.2)),if_neg (by omega)],by unfold eZ;rw[if_neg h0,if_neg h1,if_neg (by omega),if_neg h7,if_pos (.inl h8),g2];exact h,by rw[h8];rfl⟩
  ·rw[if_neg hk] at h;cases h
 rw[if_neg h8] at h;by_cases h9:i.op=9
 ·rw[if_pos h9] at h;by_cases hk:bJ a.heap.ah (a.reg i.a) i.n=0∧(a.reg i.b).k=1
  ·rw[if_pos hk] at h;injection h with h
   obtain⟨g1,-⟩:=got_zero ha hk.1;have he:fA a i=0:=by
    unfold fA;rw[if_neg h0,if_neg (by omega),if_neg h5,if_neg h7,if_neg (by omega),if_pos (.inl h9),if_neg (fun e=>e g1),if_neg (by rintro (e|e);exact e.2 hk.2;omega)]
   exact⟨he,by unfold eZ;rw[if_neg h0,if_neg h1,if_neg (by omega),if_neg h7,if_neg (by omega),if_pos (.inl h9),(set_zero ha (.inl h9) he).2];exact h,by rw[h9];rfl⟩
  ·rw[if_neg hk] at h;cases h
 rw[if_neg h9] at h
 cases h
def toldX (W:Wd) (m:Nat) (i:Ins):Wd:=⟨W.aa,W.prints++[⟨m,((W.at_ m).reg i.a).n⟩]⟩
def nextX (W1 W:Wd) (m:Nat) (i:Ins):Wd:=W1.put m ((W1.at_ m).aG (bW (W.at_ m) i))
def ledX (W:Wd) (m:Nat) (r:Int):List Int:=iT (W.at_ m).heap.ah [(W.at_ m).reg r]
def spawnX (W:Wd) (m:Nat) (i:Ins):Option Wd:=
 if((W.at_ m).reg i.b).k=2∧W.aa.length≠8∧(ledX W m i.b).any (aV (W.at_ m).heap.ah)=false∧((ledX W m i.b).length:Int)≤(W.at_ m).heap.most then
  some ⟨W.aa.set m ((((W.at_ m).af ⟨(W.at_ m).heap.most,bN (W.at_ m).heap.ah (ledX W m i.b)⟩).ai i.b aQ).ai i.a ⟨1,W.aa.length⟩)++
   [dS i.n m ⟨(W.at_ m).heap.most,gW (W.at_ m).heap.ah [] (ledX W m i.b) (ledX W m i.b).length⟩ (aI (plM 0 (ledX W m i.b)) ((W.at_ m).reg i.b))],W.prints⟩
 else none
def movedX (W:Wd) (m t:Nat) (r:Int):Wd:=
 (W.put m ((W.at_ m).af ⟨(W.at_ m).heap.most,bN (W.at_ m).heap.ah (ledX W m r)⟩)).put t
  ((((W.put m ((W.at_ m).af ⟨(W.at_ m).heap.most,bN (W.at_ m).heap.ah (ledX W m r)⟩)).at_ t).af ⟨(W.at_ t).heap.most,gW (W.at_ m).heap.ah (W.at_ t).heap.ah (ledX W m r) (ledX W m r).length⟩).aK ((W.at_ t).box++[aI (plM (W.at_ t).heap.ah.length (ledX W m r)) ((W.at_ m).reg r)]))
def sendX (W:Wd) (m:Nat) (i:Ins):Option Wd:=
 if((W.at_ m).reg i.a).k=2∧((W.at_ m).reg i.b).k=1∧(ledX W m i.a).any (aV (W.at_ m).heap.ah)=false∧gV W ((W.at_ m).reg i.b).n=true∧((W.at_ m).reg i.b).n.toNat≠m∧
   ((W.at_ ((W.at_ m).reg i.b).n.toNat).heap.ah.length:Int)+((ledX W m i.a).length:Int)≤(W.at_ ((W.at_ m).reg i.b).n.toNat).heap.most then
  some ((movedX W m ((W.at_ m).reg i.b).n.toNat i.a).put m (((movedX W m ((W.at_ m).reg i.b).n.toNat i.a).at_ m).ai i.a aQ))
 else none
theorem bare_room {h:Hp} (a:kX h):hpB ⟨h.most,[]⟩ []=true:=by simp[hpB,limB,a.low,a.high]
theorem spawnX_ok (hW:bK ps W) (hm:m<W.aa.length) (h:spawnX W m i=some W') (h17:i.op=17):fu W m i=0∧bU W m i=W'∧W'.prints=W.prints:=by
 have ha:=hW.at_ hm;unfold spawnX at h;split at h
 ·rename_i hc
  injection h with h
  have hp:=ha.reg1 i.b;have hl:ay (W.at_ m).heap.ah [(W.at_ m).reg i.b]=ledX W m i.b:=lL hp;have hR:dU (W.at_ m).heap ((W.at_ m).reg i.b) ⟨(W.at_ m).heap.most,[]⟩=0:=by
   rw[pE hp (bare_room ha.hp) hl hc.2.2.1,if_neg (by have:=hc.2.2.2;simp only[List.length_nil];omega)]
  obtain⟨t1,t2,t3⟩:=oM hl hR;have e1:eD W m i=0:=(by unfold eD;rw[if_neg hc.2.1,if_neg (fun e=>e hR)]);refine⟨?_,?_,by rw[←h]⟩
  ·unfold fu;rw[if_neg (by omega),if_pos h17,if_neg (fun e=>e hc.1),e1]
  ·unfold bU;rw[if_neg (by omega),if_pos h17,if_neg (fun e=>e hc.1)];unfold eG;rw[if_neg (by rw[e1];decide),t1,t2,t3];exact h
 ·cases h
theorem sendX_ok (hW:bK ps W) (hm:m<W.aa.length) (h:sendX W m i=some W') (h13:i.op=13):fu W m i=0∧bU W m i=W'∧W'.prints=W.prints:=by
 have ha:=hW.at_ hm;unfold sendX at h;split at h
 ·rename_i hc
  obtain⟨c1,c2,c3,c4,c5,c6⟩:=hc;injection h with h
  have hp:=ha.reg1 i.a;have hl:ay (W.at_ m).heap.ah [(W.at_ m).reg i.a]=ledX W m i.a:=lL hp;obtain⟨l0,ht,-⟩:=jR (uq c4).1;have hb:=hW.at_ ht;have hR:dU (W.at_ m).heap ((W.at_ m).reg i.a) (W.at_ ((W.at_ m).reg i.b).n.toNat).heap=0:=by
   rw[pE hp hb.hp0 hl c3,if_neg (by omega)]
  obtain⟨t1,t2,t3⟩:=oM hl hR;have hs:spoilt (W.at_ m).heap ((W.at_ m).reg i.a)=false:=by
   unfold spoilt;rw[hl,c3,hp];rfl
  have e1:iI W m ((W.at_ m).reg i.b).n.toNat i.a=W:=(by unfold iI;rw[if_neg (by rw[hR];decide)]);refine⟨?_,?_,by rw[←h];rfl⟩
  ·unfold fu;rw[if_neg (by omega),if_neg (by omega),if_neg (by rintro (e|e);exact e c1;exact e c2),hs];rfl
  ·unfold bU;rw[if_neg (by omega),if_neg (by omega),if_neg (by rintro (e|e);exact e c1;exact e c2),show(i.op==13)=true by rw[h13];rfl];unfold fq;rw[hs,if_neg (by decide),if_neg (by rw[c4];decide),if_neg (by rintro⟨e,-⟩;exact c5 (by omega)),e1];unfold fB;rw[if_neg (fun e=>e hR),t1,t2,t3];exact h
 ·cases h
def goX (q:Bool) (W:Wd) (m:Nat) (i:Ins):Option Wd:=
 if i.op=15 then(if((W.at_ m).reg i.a).k=1 then some (nextX (toldX W m i) W m i) else none)
 else if i.op=17 then(spawnX W m i).map (fun W1=>nextX W1 W m i)
 else if i.op=13 then(sendX W m i).map (fun W1=>nextX W1 W m i)
 else(selfX q (W.at_ m) i).map (fun b=>W.put m (b.aG (bW (W.at_ m) i)))
theorem goX_ok (hW:bK ps W) (hm:m<W.aa.length) (hp:W.prints.length<500) (hs:q=true→i.op=2→aY (jI 2 ((W.at_ m).reg i.a).n ((W.at_ m).reg i.b).n)=true) (h:goX q W m i=some W'):kF W m i=0∧didW W m i=W'∧W'.prints.length≤W.prints.length+1:=by
 unfold goX at h;unfold kF didW;by_cases h15:i.op=15
 ·rw[if_pos h15] at h;have hb:jv i.op=true:=(by rw[h15];rfl);split at h
  ·rename_i hk
   injection h with h
   rw[hb,if_pos rfl,if_pos rfl];have e:bU W m i=toldX W m i:=(by unfold bU;rw[if_pos h15,if_pos ⟨hk,hp⟩];rfl);refine⟨by unfold fu;rw[if_pos h15,if_pos hk],by rw[e];exact h,by rw[←h];simp[nextX,toldX,Wd.put]⟩
  ·cases h
 rw[if_neg h15] at h;by_cases h17:i.op=17
 ·rw[if_pos h17] at h;obtain⟨W1,h1,h2⟩:=Option.map_eq_some_iff.1 h;have hb:jv i.op=true:=(by rw[h17];rfl);obtain⟨g1,g2,g3⟩:=spawnX_ok hW hm h1 h17;rw[hb,if_pos rfl,if_pos rfl,g1,g2];exact⟨rfl,h2,by rw[←h2];simp[nextX,Wd.put,g3]⟩
 rw[if_neg h17] at h;by_cases h13:i.op=13
 ·rw[if_pos h13] at h;obtain⟨W1,h1,h2⟩:=Option.map_eq_some_iff.1 h;have hb:jv i.op=true:=(by rw[h13];rfl);obtain⟨g1,g2,g3⟩:=sendX_ok hW hm h1 h13;rw[hb,if_pos rfl,if_pos rfl,g1,g2];exact⟨rfl,h2,by rw[←h2];simp[nextX,Wd.put,g3]⟩
 rw[if_neg h13] at h;obtain⟨c,h1,h2⟩:=Option.map_eq_some_iff.1 h;obtain⟨g1,g2,g3⟩:=selfX_ok (hW.at_ hm) m hs h1;rw[g3,if_neg (by decide),if_neg (by decide),g1,g2];exact⟨rfl,h2,by rw[←h2];simp[Wd.put]⟩
def insAtX (ps:List (List Ins)) (W:Wd) (m:Nat):Ins:=(ps.getD (W.at_ m).kind.toNat []).getD (W.at_ m).pc.toNat ⟨0,0,0,0⟩
def stepX (q:Bool) (ps:List (List Ins)) (W:Wd) (m:Nat):Option Wd:=
 if(W.at_ m).fin≠0 then none
 else if 0≤(W.at_ m).pc then goX q W m (insAtX ps W m)
 else match (W.at_ m).box with
  | []=>some W
  |v::l=>some (W.put m ((((W.at_ m).ai 1 v).aK l).aG 0))
def clearX (a:Ac):Ac:=
 {a with heap:=⟨a.heap.most,(dF a.heap.ah.length (iT a.heap.ah (aC a))).map (iq a.heap.ah (dF a.heap.ah.length (iT a.heap.ah (aC a))))⟩,regs:=((aC a).map (aI (plM 0 (dF a.heap.ah.length (iT a.heap.ah (aC a)))))).take 8,box:=((aC a).map (aI (plM 0 (dF a.heap.ah.length (iT a.heap.ah (aC a)))))).drop 8}
def tellX (W:Wd) (m:Nat) (x y:Int):Option Wd:=
 if(W.at_ m).fin=0∧(W.at_ m).box.length≠6∧((W.at_ m).heap.ah.length:Int)<(W.at_ m).heap.most then
  some (W.put m (((W.at_ m).af ⟨(W.at_ m).heap.most,(W.at_ m).heap.ah++[⟨[⟨1,x⟩,⟨1,y⟩],false⟩]⟩).aK ((W.at_ m).box++[⟨2,((W.at_ m).heap.ah.length:Int)⟩])))
 else none
def actX (q:Bool) (ps:List (List Ins)) (W:Wd) (d:ig):Option Wd:=
 if(W.aa.length:Int)≤d.cK then some W
 else if d.kind=1 then stepX q ps W d.cK.toNat
 else if d.kind=2 then some (W.put d.cK.toNat (clearX (W.at_ d.cK.toNat)))
 else tellX W d.cK.toNat d.n d.m
theorem clearX_eq (ha:bu ps n a):aS a=clearX a:=by
 obtain⟨l,hl,-⟩:=kX.led ha.heap;have hn:¬hpB a.heap (aC a)=false:=(by have:=ha.heap;simp[aC,this]);have he:iT a.heap.ah (aC a)=l:=(by rw[←lL (show hpB a.heap (aC a)=true from ha.heap)];exact dM hl);rw[mo ha hl];unfold gU eT clearX;rw[if_neg hn,if_neg hn,he]
theorem deedX {d:ig} (hd:cO d=0):0≤d.cK∧aY d.n=true∧aY d.m=true:=by
 unfold cO at hd;split at hd
 ·cases hd
 split at hd
 ·cases hd
 exact⟨by omega,by simp[aY];omega,by simp[aY];omega⟩
theorem actX_ok (hW:bK ps W) (hd:cO d=0) (hp:W.prints.length<500) (hs:q=true→aY (jI 2 ((W.at_ d.cK.toNat).reg (insAtX ps W d.cK.toNat).a).n ((W.at_ d.cK.toNat).reg (insAtX ps W d.cK.toNat).b).n)=true) (h:actX q ps W d=some W'):iY ps W d=W'∧W'.prints.length≤W.prints.length+1:=by
 obtain⟨d0,dx,dy⟩:=deedX hd;unfold actX at h;unfold iY;split at h
 ·rename_i hl
  injection h with h
  rw[if_pos hl];exact⟨h,by rw[h];omega⟩
 ·rename_i hl
  rw[if_neg hl];have hm:d.cK.toNat<W.aa.length:=(by omega);have ha:=hW.at_ hm;split at h
  ·rename_i h1
   rw[if_pos h1];unfold stepX at h;unfold stepW;split at h
   ·cases h
   ·rename_i hf
    rw[if_neg hf];split at h
    ·rename_i hpc
     rw[if_pos hpc];obtain⟨g1,g2,g3⟩:=goX_ok hW hm hp (fun e _=>hs e) h;have e1:kF W d.cK.toNat ((ps.getD (W.at_ d.cK.toNat).kind.toNat []).getD (W.at_ d.cK.toNat).pc.toNat ⟨0,0,0,0⟩)=0:=g1;rw[if_pos e1];exact⟨g2,g3⟩
    ·rename_i hpc
     rw[if_neg hpc]
     cases hb:(W.at_ d.cK.toNat).box with
     |nil=>
      rw[hb] at h;injection h with h
      exact⟨h,by rw[h];omega⟩
     |cons v l=>
      rw[hb] at h;injection h with h
      exact⟨h,by rw[←h];simp[Wd.put]⟩
  ·rename_i h1
   rw[if_neg h1];split at h
   ·rename_i h2
    injection h with h
    rw[if_pos h2,clearX_eq ha];exact⟨h,by rw[←h];simp[Wd.put]⟩
   ·rename_i h2
    rw[if_neg h2];unfold tellX at h;split at h
    ·rename_i hc
     injection h with h
     obtain⟨g1,g2,-,-⟩:=room_given ha (f:=2) (by omega) hc.2.2;have ho:gV W d.cK=true:=by
      unfold gV gH;simp only[Bool.and_eq_true,decide_eq_true_eq,beq_iff_eq,Bool.not_eq_true',decide_eq_false_iff_not];exact⟨⟨⟨d0,by omega⟩,hc.1⟩,hc.2.1⟩
     unfold gZ;rw[if_pos ho,tellA_eq ha g2 dx dy,g1];exact⟨h,by rw[←h];simp[Wd.put]⟩
    ·cases h
def runX (ps:List (List Ins)):Wd→List ig→Option Wd
 |W,[]=>some W
 |W,d::l=>match actX false ps W d with
  |some W1=>runX ps W1 l
  |none=>none
theorem runX_ok (hf:bT ps=0):∀(l:List ig) (W W':Wd),bK ps W→W.prints.length+l.length≤500→(∀d∈l,cO d=0)→runX ps W l=some W'→l.foldl (iY ps) W=W'∧bK ps W'∧W'.prints.length≤W.prints.length+l.length
 | [],W,W',hW,_,_,h=>by
  injection h with h
  subst h;exact⟨rfl,hW,by simp⟩
 |d::l,W,W',hW,hp,hd,h=>by
  unfold runX at h;split at h
  ·rename_i W1 h1
   simp only[List.length_cons] at hp;obtain⟨g1,g2⟩:=actX_ok hW (hd d (by simp)) (by omega) (fun e=>by cases e) h1;have hW1:=hW.act hf (hd d (by simp));rw[g1] at hW1;obtain⟨k1,k2,k3⟩:=runX_ok hf l W1 W' hW1 (by omega) (fun x hx=>hd x (by simp[hx])) h;refine⟨?_,k2,by simp only[List.length_cons];omega⟩;rw[List.foldl_cons,g1];exact k1
  ·cases h
end
def roundA (I n:Int):List ig:=⟨3,0,I,n⟩::(List.replicate 14 ⟨1,0,0,0⟩++List.replicate 3 ⟨1,1,0,0⟩)
def clearL:List ig:=[⟨2,0,0,0⟩,⟨2,1,0,0⟩]
def roundB:List ig:=List.replicate 3 ⟨1,1,0,0⟩++clearL
def roundL (I n:Int):List ig:=⟨3,0,I,n⟩::(List.replicate 14 ⟨1,0,0,0⟩++List.replicate 7 ⟨1,1,0,0⟩)
theorem round_is (I n:Int):roundA I n++(⟨1,1,0,0⟩:ig)::roundB=roundL I n++clearL:=rfl
def parW (pr:List Td) (s:Int):Wd:=⟨[⟨0,-1,⟨12,[⟨[⟨1,1⟩,⟨1,0⟩],false⟩]⟩,⟨2,0⟩::List.replicate 7 aQ,-1,[],0⟩,⟨1,0,⟨12,[⟨[⟨1,s⟩],false⟩]⟩,⟨2,0⟩::List.replicate 7 aQ,-1,[],0⟩],pr⟩
def midW (W:Wd) (I n:Int):Wd:=(runX echoP W (roundA I n)).getD ⟨[],[]⟩
def addW (W:Wd) (I n:Int):Wd:=(actX true echoP (midW W I n) ⟨1,1,0,0⟩).getD ⟨[],[]⟩
theorem roundX {W W':Wd} {I n s:Int} (hW:bK echoP W) (hp:W.prints.length≤400) (hI:aY I=true) (hn:aY n=true) (hs:aY s=true)
  (h1:runX echoP W (roundA I n)=some (midW W I n)) (h2:actX true echoP (midW W I n) ⟨1,1,0,0⟩=some (addW W I n)) (h3:runX echoP (addW W I n) roundB=some W')
  (h4:jI 2 (((midW W I n).at_ 1).reg (insAtX echoP (midW W I n) 1).a).n (((midW W I n).at_ 1).reg (insAtX echoP (midW W I n) 1).b).n=s):
  (roundL I n++clearL).foldl (iY echoP) W=W'∧bK echoP W':=by
 have hf:bT echoP=0:=(nC (by rw[echo_ver])).1;have hdA:∀d∈roundA I n,cO d=0:=fun d hd=>by
  rcases List.mem_cons.1 hd with rfl|hd
  ·unfold aY at hI hn;simp only[Bool.and_eq_true,decide_eq_true_eq] at hI hn;unfold cO;dsimp only;rw[if_neg (by omega),if_neg (by omega)]
  ·rcases List.mem_append.1 hd with hd|hd<;>rw[(List.mem_replicate.1 hd).2]<;>rfl
 have hdB:∀d∈roundB,cO d=0:=(by decide);have hlA:(roundA I n).length=18:=rfl;have hlB:roundB.length=5:=rfl;obtain⟨a1,a2,a3⟩:=runX_ok hf _ W _ hW (by omega) hdA h1;obtain⟨b1,b2⟩:=actX_ok a2 (show cO ⟨1,1,0,0⟩=0 from rfl) (by omega) (fun _=>by
  have e:=h4;show aY (jI 2 (((midW W I n).at_ 1).reg (insAtX echoP (midW W I n) 1).a).n (((midW W I n).at_ 1).reg (insAtX echoP (midW W I n) 1).b).n)=true
  rw[e];exact hs) h2
 have hb:=a2.act hf (show cO ⟨1,1,0,0⟩=0 from rfl);rw[b1] at hb;obtain⟨c1,c2,-⟩:=runX_ok hf _ (addW W I n) _ hb (by omega) hdB h3;refine⟨?_,c2⟩;rw[←round_is,List.foldl_append,a1,List.foldl_cons,b1];exact c1
theorem round_first {n:Int} (hn:aY n=true) (hs:aY (0+n)=true):(roundL 0 n++clearL).foldl (iY echoP) (fZ 12)=parW [⟨0,0⟩,⟨1,0+n⟩] (0+n)∧bK echoP (parW [⟨0,0⟩,⟨1,0+n⟩] (0+n)):=
 roundX (s:=0+n) (bK.new (nC (by rw[echo_ver])).1 (by omega)) (by decide) rfl hn hs (by kernel_rfl) (by kernel_rfl) (by kernel_rfl) (by kernel_rfl)
theorem round_next {pr:List Td} {I n s:Int} (hW:bK echoP (parW pr s)) (hp:pr.length≤400) (hI:aY I=true) (hn:aY n=true) (hs:aY (s+n)=true):(roundL I n++clearL).foldl (iY echoP) (parW pr s)=parW (pr++[⟨0,I⟩]++[⟨1,s+n⟩]) (s+n)∧bK echoP (parW (pr++[⟨0,I⟩]++[⟨1,s+n⟩]) (s+n)):=
 roundX (s:=s+n) hW hp hI hn hs (by kernel_rfl) (by kernel_rfl) (by kernel_rfl) (by kernel_rfl)
def echoActs (f:Nat→Int):Nat→List ig
 |0=>[]
 |k+1=>echoActs f k++roundL k (f k)
def echoMore (f:Nat→Int):Nat→List ig
 |0=>[]
 |k+1=>echoMore f k++(roundL k (f k)++clearL)
def echoSum (f:Nat→Int):Nat→Int
 |0=>0
 |k+1=>echoSum f k+f k
def echoTold (f:Nat→Int):Nat→List Td
 |0=>[]
 |k+1=>echoTold f k++[⟨0,(k:Int)⟩]++[⟨1,echoSum f (k+1)⟩]
section
variable {f:Nat→Int}
theorem echoTold_len:∀k,(echoTold f k).length=2*k
 |0=>rfl
 |k+1=>by simp only[echoTold,List.length_append,List.length_cons,List.length_nil,echoTold_len k];omega
theorem echoSum_in (hf:∀k,0≤f k∧f k<100):∀k,0≤echoSum f k∧echoSum f k≤100*k
 |0=>by simp[echoSum]
 |k+1=>by
  have h1:=echoSum_in hf k;have h2:=hf k;simp only[echoSum];omega
theorem word_in {x:Int} (h:0≤x∧x≤1000):aY x=true:=by simp[aY];omega
theorem echo_rounds (hf:∀k,0≤f k∧f k<100):∀k,k+1≤10→(echoMore f (k+1)).foldl (iY echoP) (fZ 12)=parW (echoTold f (k+1)) (echoSum f (k+1))∧bK echoP (parW (echoTold f (k+1)) (echoSum f (k+1)))
 |0,_=>by
  have h0:=hf 0;have:=round_first (n:=f 0) (word_in (by omega)) (word_in (by omega));simp only[echoMore,echoTold,echoSum,List.nil_append];exact this
 |k+1,hk=>by
  obtain⟨h1,h2⟩:=echo_rounds hf k (by omega);have h3:=hf (k+1);have h4:=echoSum_in hf (k+1+1);have hs:echoSum f (k+1+1)=echoSum f (k+1)+f (k+1):=rfl;have:=round_next (I:=((k+1:Nat):Int)) (n:=f (k+1)) h2 (by rw[echoTold_len];omega) (word_in (by omega)) (word_in (by omega)) (word_in (by omega));rw[show echoMore f (k+1+1)=echoMore f (k+1)++(roundL ((k+1:Nat):Int) (f (k+1))++clearL) from rfl,List.foldl_append,h1];exact this
theorem roundL_ok {I n:Int} (hI:0≤I∧I≤10) (hn:0≤n∧n<100):∀d∈roundL I n,cO d=0:=fun d hd=>by
 rcases List.mem_cons.1 hd with rfl|hd
 ·unfold cO;dsimp only;rw[if_neg (by omega),if_neg (by omega)]
 ·rcases List.mem_append.1 hd with hd|hd<;>rw[(List.mem_replicate.1 hd).2]<;>rfl
theorem echoActs_ok (hf:∀k,0≤f k∧f k<100):∀k,k≤10→(∀d∈echoActs f k,cO d=0)∧(∀d∈echoMore f k,cO d=0)
 |0,_=>⟨fun _ h=>by simp[echoActs] at h,fun _ h=>by simp[echoMore] at h⟩
 |k+1,hk=>by
  obtain⟨h1,h2⟩:=echoActs_ok hf k (by omega);have h3:=roundL_ok (I:=(k:Int)) (n:=f k) (by omega) (hf k);refine⟨fun d hd=>?_,fun d hd=>?_⟩
  ·rcases List.mem_append.1 hd with hd|hd
   ·exact h1 d hd
   ·exact h3 d hd
  ·rcases List.mem_append.1 hd with hd|hd
   ·exact h2 d hd
   ·rcases List.mem_append.1 hd with hd|hd
    ·exact h3 d hd
    ·simp[clearL] at hd
     rcases hd with rfl|rfl<;>rfl
theorem echo_bare:∀k,bareL (echoActs f k)=bareL (echoMore f k)
 |0=>rfl
 |k+1=>by
  have:=echo_bare k;unfold bareL at this ⊢;simp only[echoActs,echoMore,List.filter_append,this];rfl
theorem echoActs_len:∀k,(echoActs f k).length=22*k
 |0=>rfl
 |k+1=>by
  simp only[echoActs,List.length_append,echoActs_len k,roundL,List.length_cons,List.length_replicate];omega
theorem echo_run (hf:∀k,0≤f k∧f k<100) (k:Nat) (hk:k≤10):runE echoP 12 (echoActs f k)=0∧(runW echoP 12 (echoActs f k)).prints=echoTold f k∧(runW echoP 12 (echoActs f k)).aa.length=1+min k 1:=by
 have hv:(jf echoP).2.2=0:=(by rw[echo_ver]);have hp:bT echoP=0:=(nC hv).1;obtain⟨o1,o2⟩:=echoActs_ok hf k hk;obtain⟨r1,r2⟩:=run_ok (most:=12) (l:=echoActs f k) hv (by omega) (by rw[echoActs_len];omega) o1;refine⟨r1,?_⟩;rw[r2]
 cases k with
 |zero=>exact⟨rfl,rfl⟩
 |succ k=>
  have hL:=like_run hp (most:=12) (by omega) (echo_bare (f:=f) (k+1)) o1 o2;rw[(echo_rounds hf k hk).1] at hL;refine⟨?_,?_⟩
  ·rw[←hL.told];rfl
  ·rw[←hL.len];show 2=1+min (k+1) 1
   omega
end
end Go.Proofs.YtdmocjnjbihloaaDoor
