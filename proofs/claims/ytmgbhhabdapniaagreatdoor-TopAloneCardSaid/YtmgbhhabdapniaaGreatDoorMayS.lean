/- Worlds stay worlds that may be behind a step of an actor, in plain Lean. No condition; no run. -/
import Derived.Test.YtmgbhhabdapniaaGreatDoorMayW
namespace Go.Proofs.YtmgbhhabdapniaaGreatDoor
open Go.RowKit
structure nI (kinds len at_:Int) (i:Ins):Prop where
 op:0≤i.op∧i.op≤19
 a:0≤i.a∧i.a≤7
 b:0≤i.b∧i.b≤7
 n: -1099511627776≤i.n∧i.n≤1099511627776
 jump:i.op=5∨i.op=6→0≤at_+i.n∧at_+i.n<len
 spawn:i.op=17→0≤i.n∧i.n<kinds
 last:at_=len - 1→i.op=0∨i.op=19∨i.op=6
theorem insF_fit {kinds len at_:Int} {i:Ins} (h:insF kinds len at_ i=0):nI kinds len at_ i:=by
 have hok:=insF_ok h;unfold insF at h;split at h;· cases h
 rename_i h1
 split at h;· cases h
 rename_i h2
 split at h;· cases h
 split at h;· cases h
 rename_i h4
 split at h;· cases h
 rename_i h5
 split at h;· cases h
 rename_i h6
 refine⟨hok.op,hok.a,hok.b,hok.n,fun hj=>by omega,fun hs=>?_,fun hl=>by omega⟩;have:lowN i.op=0:=(by rw[hs];rfl);omega
theorem qW {ps:List (List Ins)} {l:List Ins} {k:Nat} {x:Ins} (h:bT ps=0) (hl:l∈ps) (hx:l[k]?=some x):nI ps.length l.length k x:=by
 obtain⟨h0,h6,-⟩:=qV h;unfold bT at h;rw[if_neg h0,if_neg (by omega)] at h;have hc:codeF ps.length l=0:=ik h _ (List.mem_map.2 ⟨l,hl,rfl⟩);unfold codeF at hc;split at hc
 ·cases hc
 exact insF_fit (ik hc _ (zF (qJ hx)))
section
variable {ps:List (List Ins)} {W:Wd} {n:Int} {a:Ac} {i:Ins}
theorem next_ok {kinds len:Int} (hi:nI kinds len a.pc i) (h0:0≤a.pc) (h1:a.pc<len) (hop:i.op≠19): -1≤bW a i∧bW a i<len:=by
 have hj:=hi.jump;have hl:=hi.last;unfold bW;split
 ·omega
 ·split
  ·rename_i h5 h6
   have:=hj (by omega);omega
  ·rename_i h5 h6
   by_cases hlast:a.pc=len - 1
   ·rcases hl hlast with h|h|h
    ·exact absurd h h5
    ·exact absurd h hop
    ·exact absurd (.inl h) h6
   ·omega
theorem got_val {h:Hp} {rs:List V} {v:V} {f:Int} (hp:hpB h rs=true):fU h.ah.length (cz h v f)=true:=by
 unfold cz fP;split
 ·unfold fieldAt
  cases hg:h.ah[v.n.toNat]? with
  |none=>rfl
  |some o=>
   simp only[Option.bind_some]
   cases hf:o.fields[f.toNat]? with
   |none=>rfl
   |some x=>
    exact(iX.1 ((aR.1 hp).1.ah o (zF hg))).2.1 x (zF hf)
 ·rfl
theorem tC (h:Hp) (v:V) (f:Int):0≤aH h v f∧aH h v f≤8:=by
 unfold aH;split
 ·omega
 ·split<;>omega
theorem selfE_le (a:Ac) (i:Ins):0≤fA a i∧fA a i≤8:=by
 have h1:=tC a.heap (a.reg i.b) i.n;have h2:=tC a.heap (a.reg i.a) i.n;unfold fA;(repeat' split)<;>omega
theorem jd (n:Nat) (v:V) (hv:v∈List.replicate n aQ):v=aQ:=(List.mem_replicate.1 hv).2
theorem bu.self (h:bu ps n a) (hf:a.fin=0) {kinds len at_:Int} (hi:nI kinds len at_ i) (h8:0≤n∧n≤8) (m:Nat) (hm:(m:Int)=n) (he:fA a i=0):
  bu ps n (eZ m a i)∧(eZ m a i).fin=0∧(eZ m a i).kind=a.kind∧(eZ m a i).parent=a.parent∧(eZ m a i).box.length=a.box.length:=by
 have key:∀(r:Int) (v:V),fU a.heap.ah.length v=true→bu ps n (a.ai r v)∧(a.ai r v).fin=0∧(a.ai r v).kind=a.kind∧(a.ai r v).parent=a.parent∧(a.ai r v).box.length=a.box.length:=fun r v hv=>⟨h.ai r hv,hf,rfl,rfl,rfl⟩;unfold eZ;split
 ·refine⟨{h with regs:=by simp,heap:=aR.2 ⟨h.hp,fun v hv=>?_⟩},hf,rfl,rfl,rfl⟩;rcases List.mem_append.1 hv with hv|hv
  ·rcases List.mem_cons.1 hv with rfl|hv
   ·exact h.reg 0
   ·rw[jd 7 v hv];rfl
  ·exact h.vals v (List.mem_append_right _ hv)
 ·split
  ·exact key _ _ (kS (by simp[aY];exact hi.n))
  ·split
   ·rename_i h2
    refine key _ _ (kS ?_);unfold fA at he;rw[if_neg (by omega),if_pos h2] at he;split at he
    ·cases he
    ·split at he
     ·assumption
     ·cases he
   ·split
    ·rename_i h7
     obtain⟨g1,g2,g3,g4,g5,g6,g7⟩:=h.given hf i.n;split
     ·rename_i hg
      exact⟨g1.ai i.a (g2 hg).1,g3,g4,g6,g7⟩
     ·exact⟨g1,g3,g4,g6,g7⟩
    ·split
     ·exact key _ _ (got_val h.heap)
     ·split
      ·rename_i hop
       unfold fA at he;rw[if_neg (by omega),if_neg (by omega),if_neg (by omega),if_neg (by omega),if_neg (by omega),if_pos hop] at he;split at he
       ·rename_i h1;exact absurd he h1
       ·rename_i hfe
        have hobj:bJ a.heap.ah (a.reg i.a) i.n=0:=by
         simp only[Decidable.not_not] at hfe;unfold aH at hfe;split at hfe
         ·rename_i hg
          unfold jC at hg;split at hg
          ·exact hg
          ·cases hg
         ·split at hfe<;>cases hfe
        have hset:gz a.heap (a.reg i.a) i.n (a.reg i.b)=0:=by
         unfold gz;rw[if_neg (by rw[Bool.not_eq_false];exact aR.2 ⟨h.hp,fun v hv=>by simp at hv;rcases hv with rfl|rfl<;>exact h.reg _⟩)]
         exact hobj
        exact⟨h.af (oD h.heap hset).1 hf,hf,rfl,rfl,rfl⟩
      ·split
       ·exact key _ _ (h.reg _)
       ·split
        ·exact key _ _ rfl
        ·split
         ·exact key _ _ (kS (by rw[hm];exact gP (by omega) (by omega)))
         ·exact⟨h,hf,rfl,rfl,rfl⟩
theorem emptied_ok (h:bK ps W) (m:Nat) (r:Int) (move:Bool):bK ps (dL W m r move):=by
 unfold dL;split
 ·exact h.put (fun hl=>(h.at_ hl).ai r rfl)
 ·exact h
theorem sQ {fr tt:Hp} {v:V} (he:dU fr v tt=0):hpB fr [v]=true:=by
 unfold dU dh at he;split at he
 ·cases he
 ·rename_i h1;simpa using h1
theorem transR_ok {fr tt:Hp} {rs ts:List V} {v:V} {move:Bool} (hp:hpB fr rs=true) (hq:hpB tt ts=true) (he:dU fr v tt=0):
  hpB (bC fr v tt (ay fr.ah [v]) move) rs=true∧hpB (dA fr v tt (ay fr.ah [v])) (ts++[dX fr v tt (ay fr.ah [v])])=true∧(v.k=2→(dX fr v tt (ay fr.ah [v])).k=2):=by
 obtain⟨l,e,hl,ht⟩:=led_of (sQ he);unfold dU at he;rw[e] at he ⊢;obtain⟨h1,h2⟩:=trans_ok (move:=move) hp hq hl ht he;refine⟨h1,h2,fun hk=>?_⟩;unfold dX;rw[if_pos he,fK,hk]
theorem clear_reg (h:bu ps n a) {r:Int} (h0:0≤r) (h8:r<8):((aS a).reg r).k=(a.reg r).k:=by
 obtain⟨l,hl,ht⟩:=kX.led h.heap;have hn:¬hpB a.heap (a.regs++a.box)=false:=(by simp[h.heap]);have e:(aS a).regs=(a.regs).map (aI (plM 0 (dF a.heap.ah.length l))):=by
  rw[mo h hl];show(eT a.heap (a.regs++a.box) l).take 8=_
  unfold eT;rw[if_neg hn,List.map_append,List.take_append_of_le_length (by simp[h.regs]),List.take_of_length_le (by simp[h.regs])]
 have hr:r.toNat<a.regs.length:=(by rw[h.regs];omega);unfold Ac.reg;rw[e,List.getD,List.getD,List.getElem?_map,zD hr];simp[fK]
theorem bK.moved (h:bK ps W) {m t:Nat} (hm:m<W.aa.length) (ht:t<W.aa.length) (h1:(W.at_ m).fin=0) (h2:(W.at_ t).fin=0) (h6:(W.at_ t).box.length≠6) {r:Int} (hk:((W.at_ m).reg r).k=2) (move:Bool):bK ps (fB W m t r move):=by
 unfold fB;split
 ·exact h
 ·rename_i he
  simp only[Decidable.not_not] at he;have a1:=h.at_ hm;have a2:=h.at_ ht;obtain⟨q1,q2,q3⟩:=transR_ok (move:=move) a1.heap a2.heap he;have w1:bK ps (W.put m ((W.at_ m).af (bC (W.at_ m).heap ((W.at_ m).reg r) (W.at_ t).heap (ay (W.at_ m).heap.ah [(W.at_ m).reg r]) move))):=h.put (fun _=>a1.af q1 h1);refine w1.put (fun _=>?_);have hat:∀g:Hp,((((W.put m ((W.at_ m).af g)).at_ t).af (dA (W.at_ m).heap ((W.at_ m).reg r) (W.at_ t).heap (ay (W.at_ m).heap.ah [(W.at_ m).reg r]))).aK ((W.at_ t).box++[dX (W.at_ m).heap ((W.at_ m).reg r) (W.at_ t).heap (ay (W.at_ m).heap.ah [(W.at_ m).reg r])]))=
    (((W.at_ t).af (dA (W.at_ m).heap ((W.at_ m).reg r) (W.at_ t).heap (ay (W.at_ m).heap.ah [(W.at_ m).reg r]))).aK ((W.at_ t).box++[dX (W.at_ m).heap ((W.at_ m).reg r) (W.at_ t).heap (ay (W.at_ m).heap.ah [(W.at_ m).reg r])])):=fun g=>by
   rw[gQ];split
   ·rename_i hh
    obtain⟨rfl,_⟩:=hh;rfl
   ·rfl
  rw[hat];obtain⟨v1,v2⟩:=aR.1 q2;refine(a2.af (aR.2 ⟨v1,fun v hv=>v2 v (List.mem_append_left _ hv)⟩) h2).aK (by have:=a2.box;simp;omega) (fun v hv=>?_) (fun v hv=>?_) h2
  ·rcases List.mem_append.1 hv with hv|hv
   ·exact a2.refs v hv
   ·simp at hv;subst hv;exact q3 hk
  ·rcases List.mem_append.1 hv with hv|hv
   ·exact v2 v (List.mem_append_left _ (List.mem_append_right _ hv))
   ·exact v2 v (List.mem_append_right _ hv)
theorem bK.send (h:bK ps W) {m:Nat} (hm:m<W.aa.length) (h1:(W.at_ m).fin=0) {r:Int} (hr0:0≤r) (hr8:r<8) (hk:((W.at_ m).reg r).k=2) (tt:Int) (move:Bool):bK ps (fq W m r tt move):=by
 unfold fq;refine emptied_ok ?_ m r move;split
 ·exact h
 ·split
  ·exact h
  ·rename_i hop
   have hop':gV W tt=true:=(by simpa using hop);simp only[gV,Bool.and_eq_true] at hop';obtain⟨g1,g2,g3⟩:=jR hop'.1;have g6:(W.at_ tt.toNat).box.length≠6:=(by simpa using hop'.2);split
   ·rename_i hs
    obtain⟨rfl,-⟩:=hs;rw[Int.toNat_natCast] at g6;refine h.put (fun hl=>(h.at_ hl).aK (by have:=(h.at_ hl).box;simp;omega) (fun v hv=>?_) (fun v hv=>?_) h1)
    ·rcases List.mem_append.1 hv with hv|hv
     ·exact(h.at_ hl).refs v hv
     ·simp at hv;subst hv;exact hk
    ·rcases List.mem_append.1 hv with hv|hv
     ·exact(h.at_ hl).vals v (List.mem_append_right _ hv)
     ·simp at hv;subst hv;exact(h.at_ hl).reg r
   ·unfold iI;split
    ·have hc:=h.put (i:=tt.toNat) (b:=aS (W.at_ tt.toNat)) (fun hl=>(h.at_ hl).clear);have e1:∀j,((W.put tt.toNat (aS (W.at_ tt.toNat))).at_ j).fin=(W.at_ j).fin:=fun j=>by
      rw[gQ];split
      ·rename_i hh;rw[hh.1];exact(mg _).2.2.2
      ·rfl
     refine hc.moved (by rw[dx];exact hm) (by rw[dx];exact g2) (by rw[e1];exact h1) (by rw[e1];exact g3) ?_ ?_ move
     ·rw[gQ,if_pos ⟨rfl,g2⟩,(h.at_ g2).clear_box];exact g6
     ·rw[gQ];split
      ·rename_i hh
       rw[clear_reg (h.at_ g2) hr0 hr8,←hh.1];exact hk
      ·exact hk
    ·exact h.moved hm g2 h1 g3 g6 hk move
theorem bare_ok {h:Hp} (a:kX h):hpB ⟨h.most,[]⟩ []=true:=aR.2 ⟨⟨a.low,a.high,a.low,fun _ ho=>by cases ho⟩,fun _ hv=>by cases hv⟩
theorem bK.spawn (h:bK ps W) {m:Nat} (hm:m<W.aa.length) (h1:(W.at_ m).fin=0) (hs:0≤i.n∧i.n<ps.length):bK ps (eG W m i):=by
 unfold eG;split
 ·exact h
 ·rename_i he
  simp only[Decidable.not_not] at he;unfold eD at he;split at he
  ·cases he
  rename_i hlen
  split at he
  ·cases he
  rename_i htr
  simp only[Decidable.not_not] at htr;have a1:=h.at_ hm;have hbare:=bare_ok a1.hp;obtain⟨q1,q2,-⟩:=transR_ok (move:=true) a1.heap hbare htr;generalize hgf:bC (W.at_ m).heap ((W.at_ m).reg i.b) ⟨(W.at_ m).heap.most,[]⟩ (ay (W.at_ m).heap.ah [(W.at_ m).reg i.b]) true=gf at q1;generalize hgt:dA (W.at_ m).heap ((W.at_ m).reg i.b) ⟨(W.at_ m).heap.most,[]⟩ (ay (W.at_ m).heap.ah [(W.at_ m).reg i.b])=gt at q2;generalize hgv:dX (W.at_ m).heap ((W.at_ m).reg i.b) ⟨(W.at_ m).heap.most,[]⟩ (ay (W.at_ m).heap.ah [(W.at_ m).reg i.b])=gv at q2;have hl8:W.aa.length<8:=(by have:=h.few;omega);have w1:bK ps (W.put m ((((W.at_ m).af gf).ai i.b aQ).ai i.a ⟨1,W.aa.length⟩)):=h.put (fun _=>((a1.af q1 h1).ai i.b rfl).ai i.a (kS (gP (by omega) (by omega))));have e1:(W.aa.set m ((((W.at_ m).af gf).ai i.b aQ).ai i.a ⟨1,W.aa.length⟩))=(W.put m ((((W.at_ m).af gf).ai i.b aQ).ai i.a ⟨1,W.aa.length⟩)).aa:=rfl;rw[e1];have hlen2:(W.put m ((((W.at_ m).af gf).ai i.b aQ).ai i.a ⟨1,W.aa.length⟩)).aa.length=W.aa.length:=dx;refine⟨by simp,by simp[hlen2];omega,h.told,fun j x hx=>?_,fun t ht=>by simp only[List.length_append,List.length_singleton,hlen2];exact tdB_mono (h.tds t ht) (by omega)⟩;rcases Nat.lt_or_ge j W.aa.length with hlt|hge
  ·rw[List.getElem?_append_left (by rw[hlen2];exact hlt)] at hx;exact w1.acs j x hx
  ·rw[List.getElem?_append_right (by rw[hlen2];exact hge),hlen2] at hx;have hj:j=W.aa.length:=by
    rcases Nat.eq_or_lt_of_le hge with e|e
    ·exact e.symm
    ·rw[List.getElem?_eq_none (by simp;omega)] at hx;cases hx
   subst hj;simp at hx
   subst hx;obtain⟨v1,v2⟩:=aR.1 q2;exact {
    pV:=hs.1
    pW:=hs.2
    par0:=by show(-1:Int)≤(m:Int);omega
    par1:=by show(m:Int)<(W.aa.length:Int);omega
    fin0:=by show(0:Int)≤0;omega
    fin1:=by show(0:Int)≤8;omega
    regs:=rfl
    box:=Nat.zero_le _
    heap:=aR.2 ⟨v1,fun v hv=>by
     simp only[dS,List.append_nil] at hv;rcases List.mem_cons.1 hv with rfl|hv
     ·exact v2 _ (by simp)
     ·rw[jd 7 v hv];rfl⟩
    pc0:=by show(-1:Int)≤ -1;omega
    pc1:=by show(-1:Int)<_;omega
    refs:=fun v hv=>by cases hv
    gone:= .inl rfl}
theorem kr {m:Nat} {v:V} (h:fU m v=true) (hk:v.k=1):aY v.n=true:=by
 simpa[fU,hk] using h
theorem bK.oK (h:bK ps W) {m:Nat} (hm:m<W.aa.length) (h1:(W.at_ m).fin=0) {len at_:Int} (hi:nI ps.length len at_ i):bK ps (bU W m i):=by
 have a1:=h.at_ hm;unfold bU;split
 ·split
  ·rename_i hp
   refine⟨h.one,h.few,by have:=hp.2;simp;omega,h.acs,fun t ht=>?_⟩;rcases List.mem_append.1 ht with ht|ht
   ·exact h.tds t ht
   ·simp at ht
    subst ht;have:=kr (a1.reg i.a) hp.1;simp[aY] at this
    simp[tdB]
    omega
  ·exact h
 ·split
  ·split
   ·exact h
   ·rename_i h15 h17 hk
    exact h.spawn hm h1 (hi.spawn h17)
  ·split
   ·exact h
   ·rename_i hk
    have ha:=hi.a;exact h.send hm h1 ha.1 (by omega) (by omega) _ _
theorem qL (W:Wd) (m:Nat) (i:Ins):0≤kF W m i∧kF W m i≤8:=by
 have h1:=selfE_le (W.at_ m) i;unfold kF;split
 ·unfold fu eD;(repeat' split)<;>omega
 ·exact h1
structure Still (W W':Wd):Prop where
 len:W.aa.length≤W'.aa.length
 same:∀j,j<W.aa.length→(W'.at_ j).fin=(W.at_ j).fin∧(W'.at_ j).kind=(W.at_ j).kind∧(W'.at_ j).parent=(W.at_ j).parent∧(W'.at_ j).pc=(W.at_ j).pc
theorem Still.refl (W:Wd):Still W W:=⟨Nat.le_refl _,fun _ _=>⟨rfl,rfl,rfl,rfl⟩⟩
theorem Still.trans {W W' W2:Wd} (h:Still W W') (h':Still W' W2):Still W W2:=⟨Nat.le_trans h.len h'.len,fun j hj=>by
 obtain⟨a1,a2,a3,a4⟩:=h.same j hj;obtain⟨b1,b2,b3,b4⟩:=h'.same j (Nat.lt_of_lt_of_le hj h.len);exact⟨b1.trans a1,b2.trans a2,b3.trans a3,b4.trans a4⟩⟩
theorem Still.put {m:Nat} {b:Ac} (h:m<W.aa.length→b.fin=(W.at_ m).fin∧b.kind=(W.at_ m).kind∧b.parent=(W.at_ m).parent∧b.pc=(W.at_ m).pc):Still W (W.put m b):=⟨by rw[dx];exact Nat.le_refl _,fun j _=>by
 rw[gQ];split
 ·rename_i hh
  rw[hh.1];exact h hh.2
 ·exact⟨rfl,rfl,rfl,rfl⟩⟩
theorem clear_still {m:Nat}:Still W (W.put m (aS (W.at_ m))):= .put (fun _=>by obtain⟨a1,a2,a3,a4⟩:=mg (W.at_ m);exact⟨a4,a1,a2,a3⟩)
theorem emptied_still (m:Nat) (r:Int) (move:Bool):Still W (dL W m r move):=by
 unfold dL;split
 ·exact .put (fun _=>⟨rfl,rfl,rfl,rfl⟩)
 ·exact .refl W
theorem moved_still (m t:Nat) (r:Int) (move:Bool):Still W (fB W m t r move):=by
 unfold fB;split
 ·exact .refl W
 ·exact Still.trans (W':=W.put m ((W.at_ m).af (bC (W.at_ m).heap ((W.at_ m).reg r) (W.at_ t).heap (ay (W.at_ m).heap.ah [(W.at_ m).reg r]) move))) (.put (fun _=>⟨rfl,rfl,rfl,rfl⟩)) (.put (fun _=>⟨rfl,rfl,rfl,rfl⟩))
theorem send_still (m:Nat) (r tt:Int) (move:Bool):Still W (fq W m r tt move):=by
 unfold fq;refine Still.trans ?_ (emptied_still m r move);split
 ·exact .refl W
 ·split
  ·exact .refl W
  ·split
   ·exact .put (fun _=>⟨rfl,rfl,rfl,rfl⟩)
   ·refine Still.trans ?_ (moved_still _ _ _ _);unfold iI;split
    ·exact clear_still
    ·exact .refl W
theorem pR {W:Wd} {acs:List Ac} {b:Ac} {pr:List Td} {j:Nat} (hl:acs.length=W.aa.length) (hj:j<W.aa.length):(⟨acs++[b],pr⟩:Wd).at_ j=(⟨acs,pr⟩:Wd).at_ j:=by
 unfold Wd.at_;simp only[List.getD,List.getElem?_append_left (show j<acs.length by omega)]
theorem spawn_still (m:Nat) (i:Ins):Still W (eG W m i):=by
 unfold eG;split
 ·exact .refl W
 ·refine⟨by simp,fun j hj=>?_⟩;rw[pR (W:=W) (by simp) hj];exact(Still.put (W:=W) (m:=m) (b:=(((W.at_ m).af (bC (W.at_ m).heap ((W.at_ m).reg i.b) ⟨(W.at_ m).heap.most,[]⟩ (ay (W.at_ m).heap.ah [(W.at_ m).reg i.b]) true)).ai i.b aQ).ai i.a ⟨1,W.aa.length⟩) (fun _=>⟨rfl,rfl,rfl,rfl⟩)).same j hj
theorem gI (m:Nat) (i:Ins):Still W (bU W m i):=by
 unfold bU;split
 ·split
  ·exact⟨Nat.le_refl _,fun _ _=>⟨rfl,rfl,rfl,rfl⟩⟩
  ·exact .refl W
 ·split
  ·split
   ·exact .refl W
   ·exact spawn_still m i
  ·split
   ·exact .refl W
   ·exact send_still _ _ _ _
theorem bK.did (h:bK ps W) {m:Nat} (hm:m<W.aa.length) (h1:(W.at_ m).fin=0) (h0:0≤(W.at_ m).pc) (hi:nI ps.length ((ps.getD (W.at_ m).kind.toNat []).length:Int) (W.at_ m).pc i) (he:kF W m i=0):bK ps (didW W m i):=by
 have a1:=h.at_ hm;have h19:i.op≠19:=fun e=>by
  unfold kF at he;rw[if_neg (by rw[e];decide)] at he;unfold fA at he;rw[e] at he;revert he
  simp
 have hn:=next_ok hi h0 a1.pc1 h19;unfold didW;split
 ·have w1:=h.oK hm h1 hi;obtain⟨s1,s2,s3,s4⟩:=(gI (W:=W) m i).same m hm;refine w1.put (fun hl=>(w1.at_ hl).aG hn.1 ?_ (s1.trans h1));rw[s2];exact hn.2
 ·rename_i hb
  unfold kF at he;rw[if_neg hb] at he;have hl8:=h.few;obtain⟨g1,g2,g3,g4,-⟩:=a1.self h1 hi (by omega) m rfl he;refine h.put (fun _=>g1.aG hn.1 ?_ g2);rw[g3];exact hn.2
theorem bK.left (h:bK ps W) {m:Nat} (hm:m<W.aa.length) (h1:(W.at_ m).fin=0) {len at_:Int} (hi:nI ps.length len at_ i):bK ps (kU W m i)∧W.aa.length≤(kU W m i).aa.length:=by
 unfold kU;split
 ·exact⟨h.oK hm h1 hi,(gI m i).len⟩
 ·split
  ·exact⟨h.put (fun hl=>((h.at_ hl).given h1 i.n).1),by rw[dx];exact Nat.le_refl _⟩
  ·exact⟨h,Nat.le_refl _⟩
theorem bK.step (h:bK ps W) (hf:bT ps=0) {m:Nat} (hm:m<W.aa.length):bK ps (stepW ps W m):=by
 have a1:=h.at_ hm;unfold stepW;split
 ·exact h
 ·rename_i hfin
  have h1:(W.at_ m).fin=0:=(by omega);split
  ·rename_i h0
   have hk:(W.at_ m).kind.toNat<ps.length:=(by have:=a1.pV;have:=a1.pW;omega);have hg:ps[(W.at_ m).kind.toNat]?=some ps[(W.at_ m).kind.toNat]:=zD hk;have hl:ps.getD (W.at_ m).kind.toNat []=ps[(W.at_ m).kind.toNat]:=getD_some hg;have hpc:=a1.pc1;obtain⟨k,hk'⟩:=Int.eq_ofNat_of_zero_le h0;have hkl:k<(ps.getD (W.at_ m).kind.toNat []).length:=(by omega);have hx:(ps.getD (W.at_ m).kind.toNat [])[k]?=some ((ps.getD (W.at_ m).kind.toNat []).getD k ⟨0,0,0,0⟩):=by
    generalize ps.getD (W.at_ m).kind.toNat []=c at hkl;rw[zD hkl,getD_some (zD hkl)]
   have hi:=qW hf (by rw[hl];exact List.getElem_mem hk) hx;have e1:(W.at_ m).pc.toNat=k:=(by omega);rw[e1];generalize (ps.getD (W.at_ m).kind.toNat []).getD k ⟨0,0,0,0⟩=x at hi;rw[←hk'] at hi;split
   ·rename_i he
    exact h.did hm h1 h0 hi he
   ·rename_i he
    obtain⟨w1,w2⟩:=h.left hm h1 hi;have:=qL W m x;exact w1.end_ (Nat.lt_of_lt_of_le hm w2) this.1 this.2
  ·rename_i h0
   split
   ·exact h
   ·rename_i v l hb
    have hv:fU (W.at_ m).heap.ah.length v=true:=a1.vals v (by rw[hb];simp);have hpos:(0:Int)<((ps.getD (W.at_ m).kind.toNat []).length:Int):=by
     have hk:(W.at_ m).kind.toNat<ps.length:=(by have:=a1.pV;have:=a1.pW;omega);have hg:ps[(W.at_ m).kind.toNat]?=some ps[(W.at_ m).kind.toNat]:=zD hk;have:=(qV hf).2.2 _ (List.getElem_mem hk);rw[getD_some hg];omega
    refine h.put (fun _=>((a1.ai 1 hv).aK ?_ (fun u hu=>a1.refs u (by rw[hb];simp[hu])) (fun u hu=>a1.vals u (by rw[hb];simp[hu])) h1).aG (by omega) hpos h1);have:=a1.box;rw[hb] at this;simp at this
    omega
theorem bK.act (h:bK ps W) (hf:bT ps=0) {d:ig} (hd:cO d=0):bK ps (iY ps W d):=by
 unfold cO at hd;split at hd
 ·cases hd
 rename_i hk
 split at hd
 ·cases hd
 rename_i hr
 unfold iY;split
 ·exact h
 ·rename_i hl
  split
  ·exact h.step hf (by omega)
  ·split
   ·exact h.put (fun hl=>(h.at_ hl).clear)
   ·exact h.tell (by simp[aY];omega) (by simp[aY];omega)
theorem bK.new {most:Int} (hf:bT ps=0) (hm:2≤most∧most≤60):bK ps (fZ most):=by
 obtain⟨h0,h6,hl⟩:=qV hf;refine⟨Nat.le_refl _,by show 1≤8;omega,Nat.zero_le _,fun j x hx=>?_,fun t ht=>by cases ht⟩
 cases j with
 |succ j=>simp[fZ] at hx
 |zero=>
  simp[fZ] at hx
  subst hx;have hk:(0:Nat)<ps.length:=(by omega);have hg:ps[0]?=some ps[0]:=zD hk;exact {
   pV:=by show(0:Int)≤0;omega
   pW:=by show(0:Int)<(ps.length:Int);omega
   par0:=by show(-1:Int)≤ -1;omega
   par1:=by show(-1:Int)<0;omega
   fin0:=by show(0:Int)≤0;omega
   fin1:=by show(0:Int)≤8;omega
   regs:=rfl
   box:=Nat.zero_le _
   heap:=aR.2 ⟨⟨by show 0≤most;omega,by show most≤60;omega,by show(1:Int)≤most;omega,fun o ho=>by
    simp[dS] at ho;subst ho;rfl⟩,fun v hv=>by
     simp only[dS,List.append_nil] at hv;rcases List.mem_cons.1 hv with rfl|hv
     ·rfl
     ·rw[jd 7 v hv];rfl⟩
   pc0:=by show(-1:Int)≤ -1;omega
   pc1:=by show(-1:Int)<_;omega
   refs:=fun v hv=>by cases hv
   gone:= .inl rfl}
theorem bK.run {most:Int} (hf:bT ps=0) (hm:2≤most∧most≤60):∀(l:List ig) (W:Wd),bK ps W→(∀d∈l,cO d=0)→bK ps (l.foldl (iY ps) W)
 | [],_,h,_=>h
 |d::l,W,h,hd=>bK.run hf hm l _ (h.act hf (hd d (by simp))) (fun x hx=>hd x (by simp[hx]))
end
end Go.Proofs.YtmgbhhabdapniaaGreatDoor
