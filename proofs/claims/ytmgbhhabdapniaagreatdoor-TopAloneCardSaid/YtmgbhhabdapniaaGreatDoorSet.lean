/- What is known of a behavior, in plain Lean: no more than on any way, and at its start. No condition; no run. The walk of heap.Set. No condition beside what is read. -/
import Derived.Test.YtmgbhhabdapniaaGreatDoorFlowM
import Derived.Test.YtmgbhhabdapniaaGreatDoorGet
namespace Go.Proofs.YtmgbhhabdapniaaGreatDoor
section
open Go.RowKit
def Weak (k k':List Int):Prop:=k'.length=8∧∀r:Nat,k'[r]?=k[r]?∨k'[r]?=some 0∨(k'[r]?=some 2∧(k[r]?=some 2∨k[r]?=some 3))
theorem Weak.refl {k:List Int} (h:k.length=8):Weak k k:=⟨h,fun _=> .inl rfl⟩
theorem Weak.trans {a b c:List Int} (h:Weak a b) (h':Weak b c):Weak a c:=⟨h'.1,fun r=>by
 rcases h'.2 r with h1|h1|⟨h1,h2⟩
 ·rw[h1];exact h.2 r
 ·exact .inr (.inl h1)
 ·rcases h.2 r with g1|g1|⟨g1,g2⟩
  ·rw[←g1];exact .inr (.inr ⟨h1,h2⟩)
  ·rw[g1] at h2;rcases h2 with h2|h2<;>cases h2
  ·exact .inr (.inr ⟨h1,g2⟩)⟩
theorem stepT_zero {k:List Int} (s:Kn) {t:Int} (ht:0<t):(stepT k s t).1[0]?=s.1[0]?:=by
 unfold stepT;split
 ·rfl
 ·show(s.1.set _ _)[0]?=_
  rw[List.getElem?_set,if_neg (by omega)]
 ·show(s.1.set _ _)[0]?=_
  rw[List.getElem?_set,if_neg (by omega)]
theorem foldT_zero {k:List Int}:∀(ts:List Int) (s:Kn),(∀t∈ts,0<t)→(ts.foldl (stepT k) s).1[0]?=s.1[0]?
 | [],_,_=>rfl
 |t::ts,s,h=>by
  rw[List.foldl_cons,foldT_zero ts _ (fun t ht=>h t (by simp[ht])),stepT_zero s (h t (by simp))]
theorem roundTo_zero {l:List Ins} {st:List (List Int)} (h:∀(i:Nat) (o:Ins),l[i]?=some o→∀t∈lZ i o,0<t):∀k,(dW l st k).1[0]?=st[0]?
 |0=>rfl
 |k+1=>by
  show(ny l (dW l st k) k).1[0]?=_
  unfold ny;split
  ·rename_i y0 ys o h1 h2
   rw[foldT_zero _ _ (h k o h2),roundTo_zero h k]
  ·exact roundTo_zero h k
theorem flow_zero {l:List Ins} (h:∀(i:Nat) (o:Ins),l[i]?=some o→∀t∈lZ i o,0<t):(bQ l)[0]?=some [3,3,0,0,0,0,0,0]:=by
 have key:∀st r,jJ l st r→r[0]?=st[0]?:=fun st r hf=>by
  induction hf with
  | @done st _=>exact roundTo_zero h _
  | @more st r _ _ ih=>rw[ih];exact roundTo_zero h _
 rw[key _ _ (nX l)];rfl
end
section
open Go.RowKit
set_option maxRecDepth 100000 in
set_option maxHeartbeats 4000000 in
theorem set_any (m:Int) (S:Nat→Prop) (A:Option Addr) (c:Nat) (os:List Ob) (v:V) (f:Int) (x:V) (w:World) (hr:aj obE w S (.slice A os.length c) os):
  Calls Tryz.prog 48 #[.agg #[.int .i64 m,.slice A os.length c],.agg #[.int .i64 v.k,.int .i64 v.n],.int .i64 f,.agg #[.int .i64 x.k,.int .i64 x.n]] w (SetD w ⟨m,os⟩ v f x):=by
 have Hr:=zG hr;obtain⟨-,h1,h2,h3⟩:=hr.fw;have H3:os.length*32≤140737488355328:=h3;clear hr h3;have hB:Below w.heap.size w (((((w.alloc (.cells #[.int .i64 m,.slice A os.length c] 51)).alloc (.cells #[.int .i64 v.k,.int .i64 v.n] 88)).alloc (.cells #[.int .i64 x.k,.int .i64 x.n] 88)).alloc (.cells #[.int .i64 0,.slice none 0 0] 51)).alloc
   (.cells #[.int .i64 v.k,.int .i64 v.n,.int .i64 x.k,.int .i64 x.n] 88)):=
  (((((Below.refl _ _).alloc (Nat.le_refl _) _).alloc (by simp) _).alloc (by simp;omega) _).alloc (by simp;omega) _).alloc (by simp;omega) _
 have L0:dD (((((w.alloc (.cells #[.int .i64 m,.slice A os.length c] 51)).alloc (.cells #[.int .i64 v.k,.int .i64 v.n] 88)).alloc (.cells #[.int .i64 x.k,.int .i64 x.n] 88)).alloc (.cells #[.int .i64 0,.slice none 0 0] 51)).alloc
   (.cells #[.int .i64 v.k,.int .i64 v.n,.int .i64 x.k,.int .i64 x.n] 88))
   [(w.heap.size+1+1+1,#[.int .i64 0,.slice none 0 0],51),(w.heap.size+1+1,#[.int .i64 x.k,.int .i64 x.n],88),(w.heap.size+1,#[.int .i64 v.k,.int .i64 v.n],88),(w.heap.size,#[.int .i64 m,.slice A os.length c],51)]:=
  ((((dD.nil.new rfl).new (by simp)).new (by simp)).new (by simp)).alloc _
 have Hl0:=zG L0;have HB:=zG hB;clear L0 hB;by_cases he:gz ⟨m,os⟩ v f x=0
 ·have hk:hpB ⟨m,os⟩ [v,x]=true∧bJ os v f=0:=by
   unfold gz at he;split at he
   ·cases he
   ·rename_i hp
    exact⟨by simpa using hp,he⟩
  obtain⟨hp,ho⟩:=hk;have eH:setH ⟨m,os⟩ v f x=⟨m,eY os v.n.toNat f.toNat x⟩:=if_pos he;unfold SetD;rw[eH,he];have hc:checkN ⟨m,os⟩ [v,x]=0:=(by simp[checkN,hp]);have hval:v.k=2→0≤v.n∧v.n<os.length:=fun hk=>qH (by simp[hpB] at hp;exact hp.2.1) hk;obtain⟨hk,o,hoo,e1,e2,_⟩:=mH ho;obtain⟨l1,l2⟩:=hval hk;obtain⟨vk,vn⟩:=v;simp only at hk l1 l2 hoo;subst hk;obtain⟨i,rfl⟩:=Int.eq_ofNat_of_zero_le l1;obtain⟨j,rfl⟩:=Int.eq_ofNat_of_zero_le e1;simp only[Int.toNat_natCast] at hoo;have hj:j<o.fields.length:=(by omega);have hi:i<os.length:=(by omega);have Hc:=zG hc;have Ho:=zG ho;have Hoo:=zG hoo;have i1:(0:Int)≤(i:Int):=(by omega);have i2:(i:Int)<(os.length:Int):=(by omega);have j1:(0:Int)≤(j:Int):=(by omega);have j2:(j:Int)<(o.fields.length:Int):=(by omega);clear he eH hc hp ho hoo hval l1 l2 e1 e2;go_enter Tryz.func48,Tryz.ntmps48
  go_wp2_with fail;refine(dN m _ _ A _ c 2 os [⟨2,(i:Int)⟩,x] _ _ Hc (Hr.below (by decide) HB.out) (rd_two (v:=⟨2,(i:Int)⟩) (x:=x) (gG (by simp)))).mono ?_;rintro e w1 ⟨rfl,hb1⟩;have Hl1:w.heap.size+1+1+1+1<w1.heap.size:=(by have:=hb1.size;simp at this;omega);have L1:=Hl0.after hb1;have hbb:=bM HB.out hb1;have HL1:=zG L1;obtain⟨c0,f0,c1,f1,c2,f2,c3,f3,-⟩:=L1.rules;clear L1;go_wp2_with fail;refine(pn m _ A c os ⟨2,(i:Int)⟩ (j:Int) _ 0 Ho (fun _=>⟨i1,i2⟩) (Hr.below (by decide) hbb)).mono ?_;rintro e w2 ⟨rfl,hb2⟩;have L2:=HL1.after hb2;have hbb2:=bM hbb hb2;have Hz2:w1.heap.size≤w2.heap.size:=hb2.size;have HL2:=zG L2;clear c0 f0 c1 f1 c2 f2 c3 f3;obtain⟨c0,f0,c1,f1,c2,f2,c3,f3,-⟩:=L2.rules;clear L2;go_wp2_with fail;refine(lU m _ A c os _ (Hr.below (by decide) hbb2)).mono ?_;rintro e w3 ⟨u,vs,rfl,hsep,-,hb3⟩;obtain⟨A2,c2',rfl⟩:=bZ hsep.row;have L3:=HL2.after hb3;have hbb3:=bM hbb2 hb3;have Hz3:w2.heap.size≤w3.heap.size:=hb3.size;have HL3:=zG L3;have Hsep:=zG hsep;clear c0 f0 c1 f1 c2 f2 c3 f3;obtain⟨c0,f0,c1,f1,c2,f2,c3,f3,-⟩:=L3.rules;clear L3 hsep;go_wp2_with fail;have HL4:=zG (HL3.set2 3 (.int .i64 m) (.slice A2 os.length c2') rfl rfl (by simp<;>omega))
  have Hsep4:=zG ((Hsep.far (a:=⟨w.heap.size,0,none⟩) (by show w.heap.size<w2.heap.size;omega) (.int .i64 m)).far (a:=⟨w.heap.size,1,none⟩) (by show w.heap.size<w2.heap.size;omega) (.slice A2 os.length c2'));have hbb4:=fF (x:= .int .i64 m) (y:= .slice A2 os.length c2') (i:=0) (j:=1) hbb3 (Nat.le_refl w.heap.size);clear c0 f0 c1 f1 c2 f2 c3 f3 HL3 Hsep hbb3 hbb2 hbb hb1 hb2 hb3 HL1 HL2;generalize (w3.setCell ⟨w.heap.size,0,none⟩ (.int .i64 m)).setCell ⟨w.heap.size,1,none⟩ (.slice A2 os.length c2')=w4 at*;obtain⟨c0,f0,c1,f1,c2,f2,c3,f3,-⟩:=HL4.rules;obtain⟨g,q,cq,y0,z0,rfl,hg,k0,hq,fq0,fq1,k1,k2,⟨_,hgt⟩,⟨_,hqt⟩,hsep5⟩:=Hsep4.store Hoo.out hj x;have Hsep5:=zG hsep5;clear hsep5;have nq:q≠w.heap.size:=(by omega);have ng:g≠w.heap.size:=(by omega);clear hgt hqt;refine av [.still [0,1,2,3,4,5,6,7,8,9],.loud 10 []] (by kernel_rfl) (by kernel_rfl) ?_;refine ps_ ?_;repeat still_step
  refine zH ?_;refine pl_ ?_;go_wp2_with fail;refine⟨trivial,?_⟩;refine zI ?_;have Hsep6:=zG Hsep5.draw;have HL6:=zG (((HL4.far (a:=⟨q,j*2,none⟩) (u:= .int .i64 x.k) (fun e he=>by simp at he;rcases he with rfl|rfl|rfl|rfl<;>simp<;>omega)).far (a:=⟨q,j*2+1,none⟩) (u:= .int .i64 x.n) (fun e he=>by simp at he;rcases he with rfl|rfl|rfl|rfl<;>simp<;>omega)).drew)
  have hbb6:Below w.heap.size w ((w4.setCell ⟨q,j*2,none⟩ (.int .i64 x.k)).setCell ⟨q,j*2+1,none⟩ (.int .i64 x.n)).drew:=((hbb4.setCell (by show w.heap.size≤q;omega) _).setCell (by show w.heap.size≤q;omega) _).drew;clear Hsep4 Hsep5 HL4 hbb4 k0 k1 k2 fq0 fq1;clear c0 f0 c1 f1 c2 f2 c3 f3;generalize ((w4.setCell ⟨q,j*2,none⟩ (.int .i64 x.k)).setCell ⟨q,j*2+1,none⟩ (.int .i64 x.n)).drew=w6 at*;obtain⟨c0,f0,c1,f1,c2,f2,c3,f3,-⟩:=HL6.rules;go_wp2_with fail;have hS:=(Hsep6.far (a:=⟨w.heap.size+1+1+1,0,none⟩) (by show _<_;simp only[];omega) (.int .i64 m)).far (a:=⟨w.heap.size+1+1+1,1,none⟩) (by show _<_;simp only[];omega) (.slice (some ⟨g,0,none⟩) os.length c2');have L7:=HL6.set2 0 (.int .i64 m) (.slice (some ⟨g,0,none⟩) os.length c2') rfl rfl (by simp<;>omega)
  simp only[zC,zB] at L7;obtain⟨c0',f0',-⟩:=L7.rules;have hl:=fV os i j x;rw[←hl] at hS;refine bodyPost_ret (v:=_) ?_ rfl ⟨.agg #[.int .i64 m,.slice (some ⟨g,0,none⟩) os.length c2'],rfl,?_,fF hbb6 (by omega)⟩
  ·simp[results,Tryz.results48,go_sem,c0']
  ·rw[←hl];exact RdH.of_sep hS (by rw[hl];exact H3) (by omega)
 ·have eH:setH ⟨m,os⟩ v f x=⟨0,[]⟩:=if_neg he;unfold SetD;rw[eH];have hk:∃k r:Int,gz ⟨m,os⟩ v f x=r∧checkN ⟨m,os⟩ [v,x]=k∧((k=8∧r=8)∨(k=0∧bJ os v f=r∧r≠0∧(v.k=2→0≤v.n∧v.n<os.length))):=by
   cases hp:hpB ⟨m,os⟩ [v,x]
   ·exact⟨8,8,by simp[gz,hp],by simp[checkN,hp],.inl ⟨rfl,rfl⟩⟩
   ·have h2:gz ⟨m,os⟩ v f x=bJ os v f:=(by simp[gz,hp]);exact⟨0,_,h2,by simp[checkN,hp],.inr ⟨rfl,rfl,by rw[←h2];exact he,fun hk=>qH (by simp[hpB] at hp;exact hp.2.1) hk⟩⟩
  obtain⟨k,r,e1,hc,hk⟩:=hk;rw[e1];have Hc:=zG hc;clear he eH e1 hc;rcases hk with⟨rfl,rfl⟩|⟨rfl,hk,hr0,hval⟩
  ·go_enter Tryz.func48,Tryz.ntmps48
   go_wp2_with fail;refine(dN m _ _ A _ c 2 os [v,x] _ _ Hc (Hr.below (by decide) HB.out) (rd_two (gG (by simp)))).mono ?_;rintro e w1 ⟨rfl,hb1⟩;have L1:=Hl0.after hb1;have hbb:=bM HB.out hb1;have HL1:=zG L1;obtain⟨c0,f0,c1,f1,c2,f2,c3,f3,-⟩:=L1.rules;clear L1;go_wp2
   have L2:=HL1.set2 0 (.int .i64 0) (.slice none 0 0) rfl rfl (by simp<;>omega)
   obtain⟨c0',-⟩:=L2.rules;refine bodyPost_ret (v:=_) ?_ rfl ⟨.agg #[.int .i64 0,.slice none 0 0],rfl,.zero,fF hbb (by omega)⟩;simp[results,Tryz.results48,go_sem,c0']
  ·have Hk:=zG hk;have Hval:=zG hval;have hne:(r !=0)=true:=(by simpa using hr0);clear hk hval hr0;go_enter Tryz.func48,Tryz.ntmps48
   go_wp2_with fail;refine(dN m _ _ A _ c 2 os [v,x] _ _ Hc (Hr.below (by decide) HB.out) (rd_two (gG (by simp)))).mono ?_;rintro e w1 ⟨rfl,hb1⟩;have L1:=Hl0.after hb1;have hbb:=bM HB.out hb1;have HL1:=zG L1;obtain⟨c0,f0,c1,f1,c2,f2,c3,f3,-⟩:=L1.rules;clear L1;go_wp2_with fail;refine(pn m _ A c os v f _ r Hk Hval.out (Hr.below (by decide) hbb)).mono ?_;rintro e w2 ⟨rfl,hb2⟩;have hbb2:=bM hbb hb2;have HL2:=zG (HL1.after hb2);clear c0 f0 c1 f1 c2 f2 c3 f3;obtain⟨c0,f0,c1,f1,c2,f2,c3,f3,-⟩:=HL2.rules;go_wp2
   have L3:=HL2.set2 0 (.int .i64 0) (.slice none 0 0) rfl rfl (by simp<;>omega)
   obtain⟨c0',-⟩:=L3.rules;refine bodyPost_ret (v:=_) ?_ rfl ⟨.agg #[.int .i64 0,.slice none 0 0],rfl,.zero,fF hbb2 (by omega)⟩;simp[results,Tryz.results48,go_sem,c0']
end
end Go.Proofs.YtmgbhhabdapniaaGreatDoor
