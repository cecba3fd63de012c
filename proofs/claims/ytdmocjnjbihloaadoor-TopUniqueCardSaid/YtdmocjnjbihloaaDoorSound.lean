/- Whose each object of a heap is: what is known of registers holds, whatever is done. In plain Lean. No condition; no run. What is known of an actor holds behind each thing that is done to it. In plain Lean. No condition; no run. What is known holds in every world that comes of acts: nobody ends broken. In plain Lean. No condition; no run. What is known holds in every world that comes of acts. In plain Lean. No condition; no run. Worlds that are played, in plain Lean: they are run, may be, nobody is broken; what was told stays told. No condition; no run. The walk of slices.ContainsFunc of actors: nobody is broken. No condition beside what is read. -/
import Derived.Test.YtdmocjnjbihloaaDoorMayS
import Derived.Test.YtdmocjnjbihloaaDoorActQ
import Derived.Test.YtdmocjnjbihloaaDoorStage
import Derived.Test.YtdmocjnjbihloaaDoorActM
namespace Go.Proofs.YtdmocjnjbihloaaDoor
section
open Go.RowKit
def grp (k:List Int) (r:Nat):Nat:=if at8 k (r:Int)=2 then 1 else if at8 k (r:Int)=3 then 2+r else 0
structure iW (os:List Ob) (o:Int→Nat):Prop where
 in_:∀n,o n≠0→0≤n∧n<os.length
 live:∀n,o n≠0→aV os n=false
 shut:∀n,o n≠0→∀v∈fieldsOf os n,v.k=2→o v.n=o n
structure bf (k:List Int) (a:Ac) (o:Int→Nat):Prop where
 k8:k.length=8
 num:∀r:Nat,r<8→at8 k (r:Int)=1→(a.reg (r:Int)).k=1
 obj:∀r:Nat,r<8→grp k r≠0→(a.reg (r:Int)).k=2∧o (a.reg (r:Int)).n=grp k r
 box:∀(i:Nat) (v:V),a.box[i]?=some v→v.k=2∧o v.n=20+i
 heap:iW a.heap.ah o
section
variable {os tt:List Ob} {o:Int→Nat} {k k':List Int} {a:Ac}
theorem ne0 {f:Nat→Nat} (f0:f 0=0) {x:Nat} (h:f x≠0):x≠0:=fun e=>h (by rw[e,f0])
theorem iW.map (h:iW os o) {f:Nat→Nat} (f0:f 0=0):iW os (fun n=>f (o n)):=
 ⟨fun n hn=>h.in_ n (ne0 f0 hn),fun n hn=>h.live n (ne0 f0 hn),fun n hn v hv hk=>by rw[h.shut n (ne0 f0 hn) v hv hk]⟩
theorem dZ {n:Nat}:fieldsOf os (n:Int)=match os[n]? with|some o=>o.fields|none=>[]:=by unfold fieldsOf;rw[Int.toNat_natCast];rfl
theorem fieldsOf_at {n:Int} {b:Ob} (h:os[n.toNat]?=some b):fieldsOf os n=b.fields:=by unfold fieldsOf;rw[h]
theorem jZ {n:Nat}:aV os (n:Int)=match os[n]? with|some o=>o.dead|none=>false:=by unfold aV;rw[Int.toNat_natCast];rfl
theorem iW.claim (h:iW os o) {n:Int} (hn:0≤n∧n<os.length) (hd:aV os n=false) (hf:∀v∈fieldsOf os n,v.k≠2) (h0:o n=0) (g:Nat):iW os (fun m=>if m=n then g else o m):=
 ⟨fun m hm=>by
  by_cases e:m=n
  ·rw[e];exact hn
  ·rw[if_neg e] at hm;exact h.in_ m hm,
  fun m hm=>by
  by_cases e:m=n
  ·rw[e];exact hd
  ·rw[if_neg e] at hm;exact h.live m hm,
  fun m hm v hv hk=>by
  by_cases e:m=n
  ·rw[e] at hv;exact absurd hk (hf v hv)
  ·simp only[if_neg e] at hm ⊢;have h1:=h.shut m hm v hv hk;rw[if_neg (fun e2=>by rw[e2,h0] at h1;exact hm h1.symm)];exact h1⟩
theorem iW.snoc (h:iW os o) (b:Ob):iW (os++[b]) o∧o os.length=0:=by
 have h0:o os.length=0:=by
  by_cases e:o os.length=0
  ·exact e
  ·have:=h.in_ _ e;omega
 refine⟨⟨fun n hn=>?_,fun n hn=>?_,fun n hn v hv hk=>?_⟩,h0⟩
 ·have:=h.in_ n hn;rw[List.length_append];omega
 ·obtain⟨g1,g2⟩:=h.in_ n hn;obtain⟨m,rfl⟩:=Int.eq_ofNat_of_zero_le g1;have:=h.live _ hn;rw[jZ] at this ⊢;rw[List.getElem?_append_left (by omega)];exact this
 ·obtain⟨g1,g2⟩:=h.in_ n hn;obtain⟨m,rfl⟩:=Int.eq_ofNat_of_zero_le g1;rw[dZ,List.getElem?_append_left (by omega)] at hv;exact h.shut _ hn v (by rw[dZ];exact hv) hk
theorem iW.set (h:iW os o) {i j:Nat} {x:V} (hx:x.k=2→o (i:Int)≠0→o x.n=o (i:Int)):iW (eY os i j x) o:=by
 refine⟨fun n hn=>by rw[fV];exact h.in_ n hn,fun n hn=>?_,fun n hn v hv hk=>?_⟩
 ·obtain⟨g1,g2⟩:=h.in_ n hn;obtain⟨m,rfl⟩:=Int.eq_ofNat_of_zero_le g1;have h1:=h.live _ hn;rw[jZ] at h1 ⊢;rw[iU];by_cases e:i=m
  ·rw[if_pos e]
   cases hg:os[m]? with
   |none=>rfl
   |some b=>rw[hg] at h1;exact h1
  ·rw[if_neg e];exact h1
 ·obtain⟨g1,g2⟩:=h.in_ n hn;obtain⟨m,rfl⟩:=Int.eq_ofNat_of_zero_le g1;rw[dZ,iU] at hv;by_cases e:i=m
  ·subst e;rw[if_pos rfl] at hv
   cases hg:os[i]? with
   |none=>rw[hg] at hv;cases hv
   |some b=>
    rw[hg] at hv;rcases List.mem_or_eq_of_mem_set hv with h'|rfl
    ·exact h.shut _ hn v (by rw[dZ,hg];exact h') hk
    ·exact hx hk hn
  ·rw[if_neg e] at hv;exact h.shut _ hn v (by rw[dZ];exact hv) hk
theorem iW.led (h:iW os o) {q:List V} {out r:List Int} (hl:Led os q out r) {g:Nat} (hg:g≠0) (hq:∀v∈q,v.k=2→o v.n=g) (ho:∀n∈out,o n=g):∀n∈r,o n=g:=by
 induction hl with
 |done out=>exact ho
 | @new v q out r hf _ ih=>
  have hvk:v.k=2:=(by simp[fresh] at hf;exact hf.1);have hv:=hq v (by simp) hvk;refine ih (fun u hu hk=>?_) (fun n hn=>?_)
  ·rcases List.mem_append.1 hu with hu|hu
   ·exact hq u (by simp[hu]) hk
   ·rw[h.shut v.n (by rw[hv];exact hg) u hu hk,hv]
  ·rcases List.mem_append.1 hn with hn|hn
   ·exact ho n hn
   ·simp at hn;rw[hn];exact hv
 | @old v q out r hf _ ih=>exact ih (fun u hu hk=>hq u (by simp[hu]) hk) ho
theorem movedL_at {l:List Int} {n:Nat}:(bN os l)[n]?=(os[n]?).map (fun o=>if(n:Int)∈l then ⟨[],true⟩ else o):=by
 simp[bN,List.getElem?_mapIdx]
theorem iW.moved (h:iW os o) {l:List Int} (hl:∀n∈l,o n=0):iW (bN os l) o:=by
 refine⟨fun n hn=>by rw[gL];exact h.in_ n hn,fun n hn=>?_,fun n hn v hv hk=>?_⟩
 ·obtain⟨g1,g2⟩:=h.in_ n hn;obtain⟨m,rfl⟩:=Int.eq_ofNat_of_zero_le g1;have h1:=h.live _ hn;have hm:¬(m:Int)∈l:=fun e=>hn (hl _ e);rw[jZ] at h1 ⊢;rw[movedL_at]
  cases hg:os[m]? with
  |none=>rfl
  |some b=>rw[hg] at h1;simpa[hm] using h1
 ·obtain⟨g1,g2⟩:=h.in_ n hn;obtain⟨m,rfl⟩:=Int.eq_ofNat_of_zero_le g1;have hm:¬(m:Int)∈l:=fun e=>hn (hl _ e);rw[dZ,movedL_at] at hv;refine h.shut _ hn v ?_ hk;rw[dZ]
  cases hg:os[m]? with
  |none=>rw[hg] at hv;cases hv
  |some b=>rw[hg] at hv;simpa[hm] using hv
theorem iW.to (h:iW tt o) {fr:List Ob} {q:List V} {l:List Int} (hl:Led fr q [] l) (g:Nat):iW (gW fr tt l l.length) (fun n=>if(tt.length:Int)≤n∧n<(tt.length:Int)+(l.length:Int) then g else o n):=by
 rw[nE];have hold:∀m:Nat,m<tt.length→(tt++l.map (fun i=>(⟨(fieldsOf fr i).map (aI (plM tt.length l)),false⟩:Ob)))[m]?=tt[m]?:=fun m hm=>List.getElem?_append_left hm;have hnew:∀n:Int,(tt.length:Int)≤n→n<(tt.length:Int)+(l.length:Int)→∃x∈l,(tt++l.map (fun i=>(⟨(fieldsOf fr i).map (aI (plM tt.length l)),false⟩:Ob)))[n.toNat]?=some ⟨(fieldsOf fr x).map (aI (plM tt.length l)),false⟩:=fun n h1 h2=>by
  have hi:n.toNat - tt.length<l.length:=(by omega);refine⟨l[n.toNat - tt.length],List.getElem_mem hi,?_⟩;rw[List.getElem?_append_right (by omega),List.getElem?_map,zD hi];rfl
 refine⟨fun n hn=>?_,fun n hn=>?_,fun n hn v hv hk=>?_⟩
 ·simp only[List.length_append,List.length_map];by_cases e:(tt.length:Int)≤n∧n<(tt.length:Int)+(l.length:Int)
  ·omega
  ·rw[if_neg e] at hn;have:=h.in_ n hn;omega
 ·by_cases e:(tt.length:Int)≤n∧n<(tt.length:Int)+(l.length:Int)
  ·obtain⟨x,_,hx⟩:=hnew n e.1 e.2;unfold aV;rw[hx]
  ·rw[if_neg e] at hn;obtain⟨g1,g2⟩:=h.in_ n hn;obtain⟨m,rfl⟩:=Int.eq_ofNat_of_zero_le g1;have:=h.live _ hn;rw[jZ] at this ⊢;rw[hold m (by omega)];exact this
 ·by_cases e:(tt.length:Int)≤n∧n<(tt.length:Int)+(l.length:Int)
  ·obtain⟨x,hxl,hx⟩:=hnew n e.1 e.2;rw[fieldsOf_at hx] at hv;obtain⟨u,hu,rfl⟩:=List.mem_map.1 hv;rw[fK] at hk;have hm:=hl.shut x hxl u hu hk;have hp:=oW (n:=tt.length) hm;have en:(aI (plM tt.length l) u).n=plM tt.length l u.n:=(by unfold aI;rw[if_pos hk]);simp only[en];rw[if_pos e,if_pos ⟨by omega,by omega⟩]
  ·simp only[if_neg e] at hn ⊢;obtain⟨g1,g2⟩:=h.in_ n hn;obtain⟨m,rfl⟩:=Int.eq_ofNat_of_zero_le g1;rw[dZ,hold m (by omega)] at hv;have h1:=h.shut _ hn v (by rw[dZ];exact hv) hk;have h2:=h.in_ v.n (by rw[h1];exact hn);rw[if_neg (by omega)];exact h1
def ownC (o:Int→Nat) (K:List Int) (n:Int):Nat:=if 0≤n∧n<K.length then o (K.getD n.toNat 0) else 0
theorem ownC_at {K:List Int} {x:Int} (hx:x∈K):ownC o K (plM 0 K x)=o x:=by
 have h1:=List.idxOf_lt_length_of_mem hx;have e:plM 0 K x=(K.idxOf x:Int):=(by unfold plM;rw[if_pos hx];simp);unfold ownC;rw[e,if_pos ⟨by omega,by omega⟩,Int.toNat_natCast,List.getD,zD h1];simp
theorem iW.coll (h:iW os o) {q:List V} {l:List Int} (hl:Led os q [] l) (ht:Told os.length l):iW ((dF os.length l).map (iq os (dF os.length l))) (ownC o (dF os.length l)):=by
 have hin:∀x,x∈l→x∈dF os.length l:=fun x hx=>iC.2 ⟨hx,ht.within x hx⟩;have hof:∀x,x∈dF os.length l→x∈l:=fun x hx=>(iC.1 hx).1;generalize dF os.length l=K at*;have key:∀n,ownC o K n≠0→∃m:Nat,n=m∧∃x,K[m]?=some x∧o x≠0∧ownC o K n=o x:=fun n hn=>by
  unfold ownC at hn;by_cases e:0≤n∧n<(K.length:Int)
  ·obtain⟨m,rfl⟩:=Int.eq_ofNat_of_zero_le e.1;have hm:m<K.length:=(by omega);have hg:K[m]?=some K[m]:=zD hm;have e2:ownC o K (m:Int)=o K[m]:=by
    unfold ownC;rw[if_pos e,Int.toNat_natCast,List.getD,hg];rfl
   refine⟨m,rfl,_,hg,?_,e2⟩;rw[if_pos e,Int.toNat_natCast,List.getD,hg] at hn;exact hn
  ·rw[if_neg e] at hn;exact absurd rfl hn
 refine⟨fun n hn=>?_,fun n hn=>?_,fun n hn v hv hk=>?_⟩
 ·obtain⟨m,rfl,x,hx,-⟩:=key n hn;have:=(zE.1 hx).1;rw[List.length_map];omega
 ·obtain⟨m,rfl,x,hx,hox,-⟩:=key n hn;rw[jZ,List.getElem?_map,hx];exact h.live x hox
 ·obtain⟨m,rfl,x,hx,hox,e⟩:=key n hn;rw[dZ,List.getElem?_map,hx] at hv;obtain⟨u,hu,rfl⟩:=List.mem_map.1 hv;rw[fK] at hk;have hm:=hl.shut x (hof x (zF hx)) u hu hk;have en:(aI (plM 0 K) u).n=plM 0 K u.n:=(by unfold aI;rw[if_pos hk]);rw[en,ownC_at (hin _ hm),e];exact h.shut x hox u hu hk
theorem rh (h8:a.regs.length=8) {A r:Nat} (hA:A<8) {v:V}:(a.ai (A:Int) v).reg (r:Int)=if r=A then v else a.reg (r:Int):=by
 unfold Ac.reg Ac.ai;simp only[Int.toNat_natCast,List.getD,List.getElem?_set];by_cases h:A=r
 ·subst h;rw[if_pos rfl,if_pos (by omega),if_pos rfl];rfl
 ·rw[if_neg h,if_neg (fun e=>h e.symm)]
theorem gF (h8:k.length=8) {A r:Nat} (hA:A<8) {t:Int}:at8 (k.set A t) (r:Int)=if r=A then t else at8 k (r:Int):=by
 unfold at8;simp only[Int.toNat_natCast,List.getD,List.getElem?_set];by_cases h:A=r
 ·subst h;rw[if_pos rfl,if_pos (by omega),if_pos rfl];rfl
 ·rw[if_neg h,if_neg (fun e=>h e.symm)]
theorem kP (h8:k.length=8) {A r:Nat} (hA:A<8) {t:Int} (hr:r≠A):grp (k.set A t) r=grp k r:=by
 unfold grp;rw[gF h8 hA,if_neg hr]
theorem iP (h8:k.length=8) {A:Nat} (hA:A<8) {t:Int}:grp (k.set A t) A=if t=2 then 1 else if t=3 then 2+A else 0:=by
 unfold grp;rw[gF h8 hA,if_pos rfl]
theorem lX (k:List Int) (r:Nat):grp k r=0∨grp k r=1∨grp k r=2+r:=by
 unfold grp;split
 ·exact .inr (.inl rfl)
 ·split
  ·exact .inr (.inr rfl)
  ·exact .inl rfl
def er (A x:Nat):Nat:=if x=2+A then 0 else x
theorem er_grp {A r:Nat} (h:r≠A):er A (grp k r)=grp k r:=by
 unfold er;rw[if_neg];rcases lX k r with e|e|e<;>rw[e]<;>omega
theorem er0 (A:Nat):er A 0=0:=by unfold er;split<;>rfl
theorem er_box {A:Nat} (hA:A<8) (i:Nat):er A (20+i)=20+i:=by unfold er;rw[if_neg (by omega)]
theorem bf.write (h:bf k a o) (h8:a.regs.length=8) {A:Nat} (hA:A<8) (v:V) (f:Nat→Nat) (f0:f 0=0) (fb:∀i,f (20+i)=20+i) (hk':k'.length=8)
  (hr:∀r:Nat,r<8→r≠A→(at8 k' (r:Int)=1→at8 k (r:Int)=1)∧(grp k' r≠0→f (grp k r)=grp k' r))
  (hv1:at8 k' (A:Int)=1→v.k=1) (hv2:grp k' A≠0→v.k=2∧f (o v.n)=grp k' A):bf k' (a.ai (A:Int) v) (fun n=>f (o n)):=by
 refine⟨hk',fun r hr8 h1=>?_,fun r hr8 h1=>?_,fun i x hx=>?_,h.heap.map f0⟩
 ·rw[rh h8 hA];by_cases e:r=A
  ·rw[if_pos e];rw[e] at h1;exact hv1 h1
  ·rw[if_neg e];exact h.num r hr8 ((hr r hr8 e).1 h1)
 ·simp only[rh h8 hA];by_cases e:r=A
  ·rw[if_pos e];rw[e] at h1 ⊢;exact hv2 h1
  ·rw[if_neg e];have h2:=(hr r hr8 e).2 h1;obtain⟨g1,g2⟩:=h.obj r hr8 (ne0 f0 (by rw[h2];exact h1));exact⟨g1,by rw[g2,h2]⟩
 ·obtain⟨g1,g2⟩:=h.box i x hx;exact⟨g1,by simp only[g2,fb]⟩
theorem bf.re (h:bf k a o) (f:Nat→Nat) (f0:f 0=0) (fb:∀i,f (20+i)=20+i) (hk':k'.length=8)
  (hr:∀r:Nat,r<8→(at8 k' (r:Int)=1→at8 k (r:Int)=1)∧(grp k' r≠0→f (grp k r)=grp k' r)):bf k' a (fun n=>f (o n)):=by
 refine⟨hk',fun r hr8 h1=>h.num r hr8 ((hr r hr8).1 h1),fun r hr8 h1=>?_,fun i x hx=>?_,h.heap.map f0⟩
 ·have h2:=(hr r hr8).2 h1;obtain⟨g1,g2⟩:=h.obj r hr8 (ne0 f0 (by rw[h2];exact h1));exact⟨g1,by simp only[g2,h2]⟩
 ·obtain⟨g1,g2⟩:=h.box i x hx;exact⟨g1,by simp only[g2,fb]⟩
theorem bf.weak (h:bf k a o) (hw:Weak k k'):∃o',bf k' a o':=by
 have ha:∀r:Nat,at8 k' (r:Int)=at8 k (r:Int)∨at8 k' (r:Int)=0∨(at8 k' (r:Int)=2∧(at8 k (r:Int)=2∨at8 k (r:Int)=3)):=fun r=>by
  unfold at8;simp only[Int.toNat_natCast,List.getD];rcases hw.2 r with e|e|⟨e,e2⟩
  ·rw[e];exact .inl rfl
  ·rw[e];exact .inr (.inl rfl)
  ·rw[e];rcases e2 with e2|e2<;>rw[e2]
   ·exact .inr (.inr ⟨rfl,.inl rfl⟩)
   ·exact .inr (.inr ⟨rfl,.inr rfl⟩)
 have hf2:∀r:Nat,r<8→(fun x=>if x<2∨20≤x then x else grp k' (x - 2)) (2+r)=grp k' r:=fun r hr=>by
  simp only;rw[if_neg (by omega),Nat.add_sub_cancel_left]
 refine⟨_,h.re (fun x=>if x<2∨20≤x then x else grp k' (x - 2)) rfl (fun i=>if_pos (by omega)) hw.1 (fun r hr8=>⟨fun h1=>?_,fun h1=>?_⟩)⟩
 ·rcases ha r with e|e|⟨e,_⟩
  ·rw[←e];exact h1
  ·rw[e] at h1;cases h1
  ·rw[e] at h1;cases h1
 ·rcases ha r with e|e|⟨e,e2⟩
  ·have hg:grp k' r=grp k r:=(by unfold grp;rw[e]);rcases lX k r with q|q|q
   ·rw[hg,q] at h1;exact absurd rfl h1
   ·rw[hg,q];rfl
   ·rw[q];exact hf2 r hr8
  ·exact absurd (by unfold grp;rw[e];rfl) h1
  ·have hg:grp k' r=1:=(by unfold grp;rw[if_pos e]);rcases e2 with q|q
   ·have hq:grp k r=1:=(by unfold grp;rw[if_pos q]);rw[hg,hq];rfl
   ·have hq:grp k r=2+r:=(by unfold grp;rw[if_neg (by rw[q];decide),if_pos q]);rw[hq];exact hf2 r hr8
end
end
section
open Go.RowKit
section
variable {ps:List (List Ins)} {n:Int} {o:Int→Nat} {k k':List Int} {a:Ac}
theorem bf.af (h:bf k a o) {g:Hp} (hg:iW g.ah o):bf k (a.af g) o:=⟨h.k8,h.num,h.obj,h.box,hg⟩
theorem bf.aG (h:bf k a o) (p:Int):bf k (a.aG p) o:=⟨h.k8,h.num,h.obj,h.box,h.heap⟩
theorem reg_mem (h8:a.regs.length=8) {r:Nat} (hr:r<8):a.reg (r:Int)∈a.regs:=by
 unfold Ac.reg;rw[Int.toNat_natCast,List.getD,zD (by omega)];exact List.getElem_mem _
theorem newV_nil (f:Int→Int):aI f aQ=aQ:=by unfold aI aQ;rw[if_neg (by decide)]
theorem reg_map (f:Int→Int) (g:Hp) (b:List V) (r:Int):({a with heap:=g,regs:=a.regs.map (aI f),box:=b}:Ac).reg r=aI f (a.reg r):=by
 unfold Ac.reg;show(a.regs.map (aI f)).getD r.toNat aQ=aI f (a.regs.getD r.toNat aQ)
 rw[List.getD,List.getD,List.getElem?_map]
 cases a.regs[r.toNat]? with
 |none=>exact(newV_nil f).symm
 |some x=>rfl
theorem newV_nn {f:Int→Int} {v:V} (h:v.k=2):(aI f v).n=f v.n:=by unfold aI;rw[if_pos h]
theorem bf.clear (h:bf k a o) (hok:bu ps n a):∃o',bf k (aS a) o':=by
 obtain⟨l,hl,ht⟩:=kX.led hok.heap;have hn:¬hpB a.heap (a.regs++a.box)=false:=(by simp[hok.heap]);have hmem:∀v∈a.regs++a.box,v.k=2→v.n∈dF a.heap.ah.length l:=fun v hv hk=>iC.2 ⟨hl.roots v hv hk,ht.within _ (hl.roots v hv hk)⟩;have hv:eT a.heap (aC a) l=a.regs.map (aI (plM 0 (dF a.heap.ah.length l)))++a.box.map (aI (plM 0 (dF a.heap.ah.length l))):=by
  unfold eT aC;rw[if_neg hn,List.map_append]
 have hh:(gU a.heap (aC a) l).ah=(dF a.heap.ah.length l).map (iq a.heap.ah (dF a.heap.ah.length l)):=by
  unfold gU aC;rw[if_neg hn]
 have h8:(a.regs.map (aI (plM 0 (dF a.heap.ah.length l)))).length=8:=(by rw[List.length_map];exact hok.regs);have hc:=h.heap.coll hl ht;rw[mo hok hl,hv,List.take_append_of_le_length (by rw[h8];exact Nat.le_refl _),List.take_of_length_le (by rw[h8];exact Nat.le_refl _),List.drop_append,h8,Nat.sub_self,List.drop_zero,List.drop_of_length_le (by rw[h8];exact Nat.le_refl _),List.nil_append];rw[←hh] at hc;refine⟨_,h.k8,fun r hr h1=>?_,fun r hr h1=>?_,fun i x hx=>?_,hc⟩
 ·rw[reg_map,fK];exact h.num r hr h1
 ·rw[reg_map,fK];obtain⟨g1,g2⟩:=h.obj r hr h1;refine⟨g1,?_⟩;rw[newV_nn g1,ownC_at (hmem _ (List.mem_append_left _ (reg_mem hok.regs hr)) g1)];exact g2
 ·replace hx:(a.box.map (aI (plM 0 (dF a.heap.ah.length l))))[i]?=some x:=hx;rw[List.getElem?_map] at hx
  cases hg:a.box[i]? with
  |none=>rw[hg] at hx;cases hx
  |some u=>
   rw[hg] at hx;injection hx with hx
   subst hx;obtain⟨g1,g2⟩:=h.box i u hg;rw[fK];refine⟨g1,?_⟩;rw[newV_nn g1,ownC_at (hmem _ (List.mem_append_right _ (zF hg)) g1)];exact g2
theorem bf.ready (h:bf k a o) (hok:bu ps n a) (f:Int):∃o',bf k (aD a f) o':=by
 unfold aD;split
 ·exact h.clear hok
 ·exact⟨o,h⟩
theorem bf.given (h:bf k a o) (hok:bu ps n a) (f:Int):∃o',bf k (aL a f) o'∧(bL a f=0→∃m:Nat,fG a f=⟨2,m⟩∧m<(aL a f).heap.ah.length∧(aL a f).heap.ah[m]?=some (di f.toNat)∧o' (m:Int)=0):=by
 obtain⟨o',h'⟩:=h.ready hok f;unfold aL;split
 ·rename_i he
  obtain⟨g1,g2,g3,g4,g5⟩:=jE (hok.ready f).heap he;obtain⟨s1,s2⟩:=h'.heap.snoc (di f.toNat);refine⟨o',h'.af (by rw[g4];exact s1),fun _=>⟨(aD a f).heap.ah.length,g5,?_,?_,s2⟩⟩
  ·show _<(bX (aD a f).heap f).ah.length
   rw[g4];simp
  ·show(bX (aD a f).heap f).ah[_]?=_
   rw[g4];simp
 ·rename_i he
  exact⟨o',h',fun e=>absurd e he⟩
theorem bf.own (h:bf k a o) {m:Nat} {b:Ob} (hm:a.heap.ah[m]?=some b) (hd:b.dead=false) (hf:∀v∈b.fields,v.k≠2) (h0:o (m:Int)=0) (g:Nat) (hk':k'.length=8)
  (hr:∀r:Nat,r<8→(at8 k' (r:Int)=1→at8 k (r:Int)=1)∧(grp k' r≠0→grp k r=grp k' r∨(a.reg (r:Int)=⟨2,m⟩∧grp k' r=g))):bf k' a (fun x=>if x=(m:Int) then g else o x):=by
 have hl:=(zE.1 hm).1;refine⟨hk',fun r hr8 h1=>h.num r hr8 ((hr r hr8).1 h1),fun r hr8 h1=>?_,fun i x hx=>?_,h.heap.claim ⟨by omega,by omega⟩ (by rw[jZ,hm];exact hd) (by rw[dZ,hm];exact hf) h0 g⟩
 ·rcases (hr r hr8).2 h1 with e|⟨e1,e2⟩
  ·obtain⟨g1,g2⟩:=h.obj r hr8 (by rw[e];exact h1);refine⟨g1,?_⟩;try dsimp only
   rw[if_neg (fun q=>by rw[q,h0,e] at g2;exact h1 g2.symm),g2,e]
  ·rw[e1];refine⟨rfl,?_⟩;try dsimp only
   rw[if_pos rfl,e2]
 ·obtain⟨g1,g2⟩:=h.box i x hx;refine⟨g1,?_⟩;try dsimp only
  rw[if_neg (fun q=>by rw[q,h0] at g2;omega),g2]
theorem bf.push (h:bf k a o) {m:Nat} {b:Ob} (hm:a.heap.ah[m]?=some b) (hd:b.dead=false) (hf:∀v∈b.fields,v.k≠2) (h0:o (m:Int)=0):∃o',bf k (a.aK (a.box++[⟨2,m⟩])) o':=by
 have h1:=h.own hm hd hf h0 (20+a.box.length) h.k8 (fun r _=>⟨id,fun _=> .inl rfl⟩);refine⟨fun x=>if x=(m:Int) then 20+a.box.length else o x,h1.k8,h1.num,h1.obj,fun i x hx=>?_,h1.heap⟩;replace hx:(a.box++[(⟨2,m⟩:V)])[i]?=some x:=hx;rcases Nat.lt_trichotomy i a.box.length with hi|hi|hi
 ·rw[List.getElem?_append_left hi] at hx;exact h1.box i x hx
 ·subst hi;simp at hx
  subst hx;exact⟨rfl,if_pos rfl⟩
 ·rw[List.getElem?_eq_none (by simp;omega)] at hx
  cases hx
theorem bf.tell (h:bf k a o) (hok:bu ps n a) {x y:Int} (hx:aY x=true) (hy:aY y=true):∃o',bf k (iK a x y) o':=by
 unfold iK;split
 ·rename_i he
  obtain⟨o',h'⟩:=h.ready hok 2;obtain⟨t1,t2⟩:=two_ok (hok.ready 2).heap he hx hy;obtain⟨-,-,-,g4,g5⟩:=jE (hok.ready 2).heap he;obtain⟨s1,s2⟩:=h'.heap.snoc ⟨[⟨1,x⟩,⟨1,y⟩],false⟩;have h2:bf k ((aD a 2).af ⟨(aD a 2).heap.most,(aD a 2).heap.ah++[⟨[⟨1,x⟩,⟨1,y⟩],false⟩]⟩) o':=h'.af s1;obtain⟨o2,h3⟩:=h2.push (m:=(aD a 2).heap.ah.length) (b:=⟨[⟨1,x⟩,⟨1,y⟩],false⟩) (by simp[Ac.af]) rfl (fun v hv=>by
   simp at hv
   rcases hv with rfl|rfl<;>(show(1:Int)≠2;decide)) s2
  refine⟨o2,?_⟩;have eA:aL a 2=(aD a 2).af (bX (aD a 2).heap 2):=if_pos he;rw[eA];show bf k (((aD a 2).af (twoH (bX (aD a 2).heap 2) (bP (aD a 2).heap 2) x y)).aK ((aD a 2).box++[bP (aD a 2).heap 2])) o2
  rw[t2,g5];exact h3
 ·rename_i he
  have eA:aL a 2=aD a 2:=if_neg he;rw[eA];exact h.ready hok 2
theorem r9 (hk:k.length=8) {A:Nat} (hA:A<8) {t:Int}:∀r:Nat,r<8→r≠A→(at8 (k.set A t) (r:Int)=1→at8 k (r:Int)=1)∧(grp (k.set A t) r≠0→er A (grp k r)=grp (k.set A t) r):=fun r _ hne=>
 ⟨fun h1=>by rwa[gF hk hA,if_neg hne] at h1,fun _=>by rw[kP hk hA hne,er_grp hne]⟩
theorem bf.numW (h:bf k a o) (h8:a.regs.length=8) {A:Nat} (hA:A<8) {v:V} (hv:v.k=1):∃o',bf (k.set A 1) (a.ai (A:Int) v) o':=
 ⟨_,h.write h8 hA v (er A) (er0 A) (er_box hA) (by rw[List.length_set];exact h.k8) (r9 h.k8 hA) (fun _=>hv) (fun h1=>absurd (by rw[iP h.k8 hA];rfl) h1)⟩
theorem bf.nilW (h:bf k a o) (h8:a.regs.length=8) {A:Nat} (hA:A<8) (v:V):bf (k.set A 0) (a.ai (A:Int) v) (fun n=>er A (o n)):=
 h.write h8 hA v (er A) (er0 A) (er_box hA) (by rw[List.length_set];exact h.k8) (r9 h.k8 hA) (fun h1=>by rw[gF h.k8 hA,if_pos rfl] at h1;cases h1) (fun h1=>absurd (by rw[iP h.k8 hA];rfl) h1)
theorem bf.newW (h:bf k a o) (h8:a.regs.length=8) {A:Nat} (hA:A<8) {m:Nat} {b:Ob} (hm:a.heap.ah[m]?=some b) (hd:b.dead=false) (hf:∀v∈b.fields,v.k≠2) (h0:o (m:Int)=0):∃o',bf (k.set A 3) (a.ai (A:Int) ⟨2,m⟩) o':=by
 refine⟨_,(h.nilW h8 hA ⟨2,m⟩).own (k':=k.set A 3) (m:=m) (b:=b) hm hd hf (by(try dsimp only);rw[h0,er0]) (2+A) (by rw[List.length_set];exact h.k8) (fun r hr=>?_)⟩;by_cases e:r=A
 ·subst e;refine⟨fun h1=>?_,fun _=> .inr ⟨by rw[rh h8 hA,if_pos rfl],by rw[iP h.k8 hA];rfl⟩⟩;rw[gF h.k8 hA,if_pos rfl] at h1
  cases h1
 ·exact⟨fun h1=>by rw[gF h.k8 hA,if_neg e] at h1 ⊢;exact h1,fun _=> .inl (by rw[kP h.k8 hA e,kP h.k8 hA e])⟩
theorem nZ {A:Nat} (h:lv (at8 k (A:Int))=true):grp k A≠0:=by
 unfold grp;simp[lv] at h
 rcases h with h|h<;>rw[h]<;>simp
theorem bf.refW (h:bf k a o) (h8:a.regs.length=8) {A B:Nat} (hA:A<8) (hB:B<8) (hb:grp k B≠0) {v:V} (hv:v.k=2) (ho:o v.n=o (a.reg (B:Int)).n):∃o',bf ((k.set B 2).set A 2) (a.ai (A:Int) v) o':=by
 have hB8:(k.set B 2).length=8:=(by rw[List.length_set];exact h.k8);obtain⟨g1,g2⟩:=h.obj B hB hb;have hgb:=lX k B;have h1:(if grp k B=1 then 1 else er A 1)=1:=by
  split
  ·rfl
  ·unfold er;rw[if_neg (by omega)]
 refine⟨_,h.write h8 hA v (fun x=>if x=grp k B then 1 else er A x) (by(try dsimp only);rw[if_neg (Ne.symm hb),er0]) (fun i=>by(try dsimp only);rw[if_neg (by rcases hgb with e|e|e<;>rw[e]<;>omega),er_box hA]) (by rw[List.length_set];exact hB8) (fun r hr hne=>?_) (fun h1=>?_) (fun _=>⟨hv,?_⟩)⟩
 ·rw[gF hB8 hA,if_neg hne,kP hB8 hA hne,gF h.k8 hB];by_cases e:r=B
  ·subst e;refine⟨fun h1=>?_,fun _=>?_⟩
   ·rw[if_pos rfl] at h1;cases h1
   ·try dsimp only
    rw[if_pos rfl,iP h.k8 hB];rfl
  ·rw[if_neg e,kP h.k8 hB e];refine⟨id,fun hg=>?_⟩;try dsimp only
   by_cases q:grp k r=grp k B
   ·rw[if_pos q];rcases lX k r with e1|e1|e1
    ·exact absurd e1 hg
    ·exact e1.symm
    ·rcases hgb with e2|e2|e2
     ·exact absurd e2 hb
     ·rw[q,e2]
     ·omega
   ·rw[if_neg q,er_grp hne]
 ·rw[gF hB8 hA,if_pos rfl] at h1;cases h1
 ·try dsimp only
  rw[ho,g2,if_pos rfl,iP hB8 hA];rfl
theorem bf.putS (h:bf k a o) {A B:Nat} (hA:A<8) (hB:B<8) (ha:grp k A≠0) (hab:A=B∨at8 k (B:Int)=2) (f:Nat):∃o',bf (k.set A 2) (a.af ⟨a.heap.most,eY a.heap.ah (a.reg (A:Int)).n.toNat f (a.reg (B:Int))⟩) o':=by
 have hga:=lX k A;obtain⟨g1,g2⟩:=h.obj A hA ha;have h1:=h.re (k':=k.set A 2) (fun x=>if x=grp k A then 1 else x) (by(try dsimp only);rw[if_neg (Ne.symm ha)]) (fun i=>by(try dsimp only);rw[if_neg (by rcases hga with e|e|e<;>rw[e]<;>omega)]) (by rw[List.length_set];exact h.k8) (fun r hr=>?_)
 ·refine⟨_,h1.af (h1.heap.set (fun hk _=>?_))⟩;have hn:=(h.heap.in_ _ (by rw[g2];exact ha)).1;rw[Int.toNat_of_nonneg hn];try dsimp only
  rw[g2,if_pos rfl];rcases hab with e|e
  ·subst e;rw[g2,if_pos rfl]
  ·have hb:grp k B=1:=(by unfold grp;rw[if_pos e]);rw[(h.obj B hB (by rw[hb];decide)).2,hb];split<;>rfl
 ·by_cases e:r=A
  ·subst e;refine⟨fun h1=>?_,fun _=>?_⟩
   ·rw[gF h.k8 hA,if_pos rfl] at h1;cases h1
   ·try dsimp only
    rw[if_pos rfl,iP h.k8 hA];rfl
  ·rw[gF h.k8 hA,if_neg e,kP h.k8 hA e];refine⟨id,fun hg=>?_⟩;try dsimp only
   by_cases q:grp k r=grp k A
   ·rw[if_pos q];rcases lX k r with e1|e1|e1
    ·exact absurd e1 hg
    ·exact e1.symm
    ·rcases hga with e2|e2|e2
     ·exact absurd e2 ha
     ·rw[q,e2]
     ·omega
   ·rw[if_neg q]
theorem bf.putU (h:bf k a o) {A B:Nat} (hA:A<8) (hB:B<8) (ha:grp k A≠0) (hb:grp k B=2+B) (hab:A≠B) (f:Nat):∃o',bf (k.set B 0) (a.af ⟨a.heap.most,eY a.heap.ah (a.reg (A:Int)).n.toNat f (a.reg (B:Int))⟩) o':=by
 have hga:=lX k A;obtain⟨g1,g2⟩:=h.obj A hA ha;have h1:=h.re (k':=k.set B 0) (fun x=>if x=2+B then grp k A else x) (by(try dsimp only);rw[if_neg (by omega)]) (fun i=>by(try dsimp only);rw[if_neg (by omega)]) (by rw[List.length_set];exact h.k8) (fun r hr=>?_)
 ·refine⟨_,h1.af (h1.heap.set (fun hk _=>?_))⟩;have hn:=(h.heap.in_ _ (by rw[g2];exact ha)).1;rw[Int.toNat_of_nonneg hn];try dsimp only
  rw[g2,(h.obj B hB (by rw[hb];omega)).2,hb,if_pos rfl];split<;>rfl
 ·by_cases e:r=B
  ·subst e;refine⟨fun h1=>?_,fun h1=>absurd (by rw[iP h.k8 hB];rfl) h1⟩;rw[gF h.k8 hB,if_pos rfl] at h1;cases h1
  ·rw[gF h.k8 hB,if_neg e,kP h.k8 hB e];refine⟨id,fun hg=>?_⟩;try dsimp only
   rw[if_neg (by rcases lX k r with e1|e1|e1<;>rw[e1]<;>omega)]
theorem bf.putI (h:bf k a o) {x:V} (hx:x.k=1) (i f:Nat):bf k (a.af ⟨a.heap.most,eY a.heap.ah i f x⟩) o:=h.af (h.heap.set (fun hk=>by rw[hx] at hk;cases hk))
theorem bf.moveU (h:bf k a o) (h8:a.regs.length=8) {A B:Nat} (hA:A<8) (hB:B<8) (hb:grp k B=2+B):∃o',bf ((k.set B 0).set A 3) (a.ai (A:Int) (a.reg (B:Int))) o':=by
 have hB8:(k.set B 0).length=8:=(by rw[List.length_set];exact h.k8);obtain⟨g1,g2⟩:=h.obj B hB (by rw[hb];omega);refine⟨_,h.write h8 hA _ (fun x=>if x=2+B then 2+A else er A x) (by(try dsimp only);rw[if_neg (by omega),er0]) (fun i=>by(try dsimp only);rw[if_neg (by omega),er_box hA]) (by rw[List.length_set];exact hB8) (fun r hr hne=>?_) (fun h1=>?_) (fun _=>⟨g1,?_⟩)⟩
 ·rw[gF hB8 hA,if_neg hne,kP hB8 hA hne,gF h.k8 hB];by_cases e:r=B
  ·subst e;refine⟨fun h1=>?_,fun h1=>absurd (by rw[iP h.k8 hB];rfl) h1⟩;rw[if_pos rfl] at h1;cases h1
  ·rw[if_neg e,kP h.k8 hB e];refine⟨id,fun hg=>?_⟩;try dsimp only
   rw[if_neg (by rcases lX k r with e1|e1|e1<;>rw[e1]<;>omega),er_grp hne]
 ·rw[gF hB8 hA,if_pos rfl] at h1;cases h1
 ·try dsimp only
  rw[g2,hb,if_pos rfl,iP hB8 hA];rfl
theorem bf.moveO (h:bf k a o) (h8:a.regs.length=8) {A B:Nat} (hA:A<8) (hB:B<8) (hb:at8 k (B:Int)≠3):∃o',bf (k.set A (at8 k (B:Int))) (a.ai (A:Int) (a.reg (B:Int))) o':=by
 refine⟨_,h.write h8 hA _ (er A) (er0 A) (er_box hA) (by rw[List.length_set];exact h.k8) (r9 h.k8 hA) (fun h1=>?_) (fun h1=>?_)⟩
 ·rw[gF h.k8 hA,if_pos rfl] at h1;exact h.num B hB h1
 ·rw[iP h.k8 hA] at h1 ⊢;by_cases e:at8 k (B:Int)=2
  ·have hg:grp k B=1:=(by unfold grp;rw[if_pos e]);obtain⟨g1,g2⟩:=h.obj B hB (by rw[hg];decide);refine⟨g1,?_⟩;try dsimp only
   rw[g2,hg,if_pos e];unfold er;rw[if_neg (by omega)]
  ·rw[if_neg e,if_neg hb] at h1;exact absurd rfl h1
def known0:List Int:=[3,0,0,0,0,0,0,0]
theorem qc (r:Nat):at8 known0 (r:Int)=if r=0 then 3 else 0:=by
 unfold at8 known0;rw[Int.toNat_natCast];match r with
 |0|1|2|3|4|5|6|7=>rfl
 |r+8=>simp
theorem nG (r:Nat):grp known0 r=if r=0 then 2 else 0:=by
 unfold grp;rw[qc];by_cases h:r=0
 ·subst h;rfl
 ·rw[if_neg h,if_neg h];rfl
theorem bf.done (h:bf k a o) (h0:grp k 0≠0):∃o',bf known0 {a with regs:=a.reg 0::List.replicate 7 aQ} o':=by
 obtain⟨g1,g2⟩:=h.obj 0 (by omega) h0;have hg:=lX k 0;refine⟨fun n=>if o n=grp k 0 then 2 else if 20≤o n then o n else 0,rfl,fun r hr h1=>?_,fun r hr h1=>?_,fun i x hx=>?_,h.heap.map (f:=fun x=>if x=grp k 0 then 2 else if 20≤x then x else 0) (by(try dsimp only);rw[if_neg (Ne.symm h0)];rfl)⟩
 ·rw[qc] at h1;split at h1<;>cases h1
 ·rw[nG] at h1 ⊢;by_cases e:r=0
  ·subst e;refine⟨g1,?_⟩;show(if o (a.reg 0).n=grp k 0 then 2 else _)=_
   rw[if_pos (show o (a.reg 0).n=grp k 0 from g2)];rfl
  ·rw[if_neg e] at h1;exact absurd rfl h1
 ·obtain⟨q1,q2⟩:=h.box i x hx;refine⟨q1,?_⟩;try dsimp only
  rw[q2,if_neg (by rcases hg with e|e|e<;>rw[e]<;>omega),if_pos (by omega)]
end
end
section
open Go.RowKit
section
variable {ps:List (List Ins)} {W:Wd} {n:Int} {o:Int→Nat} {k k':List Int} {a:Ac} {i:Ins}
theorem field_ok {h:Hp} {v:V} {f:Int} (he:aH h v f=0):bJ h.ah v f=0∧cz h v f∈fieldsOf h.ah v.n:=by
 unfold aH at he;by_cases hg:jC h.most h.ah v f=0
 ·unfold jC at hg;by_cases hp:hpB ⟨h.most,h.ah⟩ [v]=true
  ·rw[if_pos hp] at hg;refine⟨hg,?_⟩;obtain⟨hk,o,ho,h0,h1,_⟩:=mH hg;unfold cz fP;rw[if_pos ⟨hp,hg⟩];unfold fieldAt fieldsOf;rw[ho];have hl:f.toNat<o.fields.length:=(by omega);show(o.fields[f.toNat]?).getD _∈o.fields
   rw[zD hl];exact List.getElem_mem hl
  ·rw[if_neg hp] at hg;cases hg
 ·rw[if_neg hg] at he;split at he<;>cases he
theorem bf.field (h:bf k a o) (hok:bu ps n a) {B:Nat} (hB:B<8) (hb:grp k B≠0) (f:Int):aH a.heap (a.reg (B:Int)) f=0∨aH a.heap (a.reg (B:Int)) f=4:=by
 obtain⟨g1,g2⟩:=h.obj B hB hb;have hne:o (a.reg (B:Int)).n≠0:=(by rw[g2];exact hb);have hin:=h.heap.in_ _ hne;have hd:=h.heap.live _ hne;have hp:hpB ⟨a.heap.most,a.heap.ah⟩ [a.reg (B:Int)]=true:=aR.2 ⟨hok.hp,fun v hv=>by
  simp at hv;subst hv;exact hok.reg _⟩
 obtain⟨b,hg⟩:∃b,a.heap.ah[(a.reg (B:Int)).n.toNat]?=some b:=⟨_,zD (by omega)⟩;unfold aV at hd;rw[hg] at hd;replace hd:b.dead=false:=hd;have ho:bJ a.heap.ah (a.reg (B:Int)) f=0∨bJ a.heap.ah (a.reg (B:Int)) f=2:=by
  unfold bJ;rw[if_pos g1,hg];simp only[hd];by_cases q:f<0∨(b.fields.length:Int)≤f
  ·simp[q]
  ·simp[q]
 unfold aH jC;rw[if_pos hp];rcases ho with e|e<;>rw[e]<;>simp
theorem bf.setH (hok:bu ps n a) {A B:Nat} {f:Int} (he:aH a.heap (a.reg (A:Int)) f=0):Go.Proofs.YtdmocjnjbihloaaDoor.setH a.heap (a.reg (A:Int)) f (a.reg (B:Int))=⟨a.heap.most,eY a.heap.ah (a.reg (A:Int)).n.toNat f.toNat (a.reg (B:Int))⟩:=by
 have hs:gz a.heap (a.reg (A:Int)) f (a.reg (B:Int))=0:=by
  unfold gz;rw[if_neg (by rw[Bool.not_eq_false];exact aR.2 ⟨hok.hp,fun v hv=>by simp at hv;rcases hv with rfl|rfl<;>exact hok.reg _⟩)]
  exact(field_ok he).1
 exact(oD hok.heap hs).2
theorem bf.got (h:bf k a o) {B:Nat} (hB:B<8) (hb:grp k B≠0) {f:Int} (he:aH a.heap (a.reg (B:Int)) f=0) (hk:(cz a.heap (a.reg (B:Int)) f).k=2):o (cz a.heap (a.reg (B:Int)) f).n=o (a.reg (B:Int)).n:=by
 obtain⟨g1,g2⟩:=h.obj B hB hb;exact h.heap.shut _ (by rw[g2];exact hb) _ (field_ok he).2 hk
theorem bf.self (h:bf k a o) (hok:bu ps n a) (ha:0≤i.a∧i.a≤7) (hb:0≤i.b∧i.b≤7) (hop:0≤i.op∧i.op≤19) (hm:mayB k i=true) (hab:jv i.op=false) (m:Nat):
  fA a i≠8∧(fA a i=0→∃o',bf (if i.op=0 then known0 else eF k i) (eZ m a i) o'):=by
 obtain⟨op,ia,ib,x⟩:=i;dsimp only at ha hb hop hab;obtain⟨A,rfl⟩:=Int.eq_ofNat_of_zero_le ha.1;obtain⟨B,rfl⟩:=Int.eq_ofNat_of_zero_le hb.1;have hA:A<8:=(by omega);have hB:B<8:=(by omega);have h8:=hok.regs;clear ha hb;have hc:op=0∨op=1∨op=2∨op=3∨op=4∨op=5∨op=6∨op=7∨op=8∨op=9∨op=10∨op=11∨op=12∨op=13∨op=14∨op=15∨op=16∨op=17∨op=18∨op=19:=(by omega);have calc3:∀op':Int,(op'=2∨op'=3∨op'=4)→mayB k ⟨op',A,B,x⟩=true→fA a ⟨op',A,B,x⟩≠8∧(fA a ⟨op',A,B,x⟩=0→∃o',bf (if op'=0 then known0 else eF k ⟨op',A,B,x⟩) (eZ m a ⟨op',A,B,x⟩) o'):=fun op' ho hm=>by
  have e1:mayB k ⟨op',A,B,x⟩=(at8 k (A:Int)==1&&at8 k (B:Int)==1):=by rcases ho with rfl|rfl|rfl<;>rfl
  have e2:fA a ⟨op',A,B,x⟩=if(a.reg (A:Int)).k≠1∨(a.reg (B:Int)).k≠1 then 8 else if aY (jI op' (a.reg (A:Int)).n (a.reg (B:Int)).n) then 0 else 7:=by rcases ho with rfl|rfl|rfl<;>rfl
  have e3:eZ m a ⟨op',A,B,x⟩=a.ai (A:Int) ⟨1,jI op' (a.reg (A:Int)).n (a.reg (B:Int)).n⟩:=by rcases ho with rfl|rfl|rfl<;>rfl
  have e4:(if op'=0 then known0 else eF k ⟨op',A,B,x⟩)=k.set A 1:=by rcases ho with rfl|rfl|rfl<;>rfl
  rw[e1] at hm;simp only[Bool.and_eq_true,beq_iff_eq] at hm;rw[e2,e3,e4,if_neg (by rw[h.num A hA hm.1,h.num B hB hm.2];decide)];refine⟨by split<;>decide,fun _=>h.numW h8 hA rfl⟩
 rcases hc with rfl|rfl|rfl|rfl|rfl|rfl|rfl|rfl|rfl|rfl|rfl|rfl|rfl|rfl|rfl|rfl|rfl|rfl|rfl|rfl
 ·have hg:=nZ (k:=k) (A:=0) hm;have h2:(a.reg 0).k=2:=(h.obj 0 (by omega) hg).1;refine⟨?_,fun _=>h.done hg⟩;show(if(a.reg 0).k=2 then(0:Int) else 8)≠8
  rw[if_pos h2];decide
 ·exact⟨by show(0:Int)≠8;decide,fun _=>h.numW h8 hA rfl⟩
 ·exact calc3 2 (by decide) hm
 ·exact calc3 3 (by decide) hm
 ·exact calc3 4 (by decide) hm
 ·replace hm:(at8 k (A:Int)==1)=true:=hm;have h1:=h.num A hA (by simpa using hm);refine⟨?_,fun _=>⟨o,h⟩⟩;show(if(a.reg (A:Int)).k=1 then(0:Int) else 8)≠8
  rw[if_pos h1];decide
 ·exact⟨by show(0:Int)≠8;decide,fun _=>⟨o,h⟩⟩
 ·refine⟨by show(if bL a x=0 then(0:Int) else 5)≠8;split<;>decide,fun he=>?_⟩
  replace he:(if bL a x=0 then(0:Int) else 5)=0:=he;have hg:bL a x=0:=by
   by_cases hg:bL a x=0
   ·exact hg
   ·rw[if_neg hg] at he;cases he
  show ∃o',bf (k.set A 3) (if bL a x=0 then(aL a x).ai (A:Int) (fG a x) else aL a x) o'
  rw[if_pos hg];obtain⟨o1,h1,h2⟩:=h.given hok x;obtain⟨q,e,_,hq,h0⟩:=h2 hg;rw[e];have g8:(aL a x).regs.length=8:=by
   unfold aL;split
   ·exact(hok.ready x).regs
   ·exact(hok.ready x).regs
  exact h1.newW g8 hA hq rfl (fun v hv=>by simp[di] at hv;rw[hv.2];decide) h0
 ·have hg:=nZ (k:=k) (A:=B) hm;have hfe:=h.field hok hB hg x;have e2:fA a ⟨8,A,B,x⟩=if aH a.heap (a.reg (B:Int)) x≠0 then aH a.heap (a.reg (B:Int)) x else if(8:Int)=8∧(cz a.heap (a.reg (B:Int)) x).k≠1 then 2 else if(8:Int)=10∧(cz a.heap (a.reg (B:Int)) x).k≠2 then 3 else 0:=rfl
  rw[e2];rcases hfe with e|e<;>rw[e]
  ·rw[if_neg (by decide)];by_cases q:(cz a.heap (a.reg (B:Int)) x).k=1
   ·rw[if_neg (by simp[q]),if_neg (fun h=>absurd h.1 (by decide))];exact⟨by decide,fun _=>h.numW h8 hA q⟩
   ·rw[if_pos ⟨rfl,q⟩];exact⟨by decide,fun h=>by cases h⟩
  ·rw[if_pos (by decide)];exact⟨by decide,fun h=>by cases h⟩
 ·replace hm:(lv (at8 k (A:Int))&&at8 k (B:Int)==1)=true:=hm;simp only[Bool.and_eq_true,beq_iff_eq] at hm;have hg:=nZ hm.1;have h1:=h.num B hB hm.2;have hfe:=h.field hok hA hg x;have e2:fA a ⟨9,A,B,x⟩=if aH a.heap (a.reg (A:Int)) x≠0 then aH a.heap (a.reg (A:Int)) x else if((9:Int)=9∧(a.reg (B:Int)).k≠1)∨((9:Int)=11∧(a.reg (B:Int)).k≠2) then 8 else 0:=rfl
  rw[e2];rcases hfe with e|e<;>rw[e]
  ·rw[if_neg (by decide),if_neg (by simp[h1])];refine⟨by decide,fun _=>?_⟩;show ∃o',bf k (a.af (Go.Proofs.YtdmocjnjbihloaaDoor.setH a.heap (a.reg (A:Int)) x (a.reg (B:Int)))) o'
   rw[bf.setH hok e];exact⟨o,h.putI h1 _ _⟩
  ·rw[if_pos (by decide)];exact⟨by decide,fun h=>by cases h⟩
 ·have hg:=nZ (k:=k) (A:=B) hm;have hfe:=h.field hok hB hg x;have e2:fA a ⟨10,A,B,x⟩=if aH a.heap (a.reg (B:Int)) x≠0 then aH a.heap (a.reg (B:Int)) x else if(10:Int)=8∧(cz a.heap (a.reg (B:Int)) x).k≠1 then 2 else if(10:Int)=10∧(cz a.heap (a.reg (B:Int)) x).k≠2 then 3 else 0:=rfl
  rw[e2];rcases hfe with e|e<;>rw[e]
  ·rw[if_neg (by decide),if_neg (fun h=>absurd h.1 (by decide))];by_cases q:(cz a.heap (a.reg (B:Int)) x).k=2
   ·rw[if_neg (by simp[q])];exact⟨by decide,fun _=>h.refW h8 hA hB hg q (h.got hB hg e q)⟩
   ·rw[if_pos ⟨rfl,q⟩];exact⟨by decide,fun h=>by cases h⟩
  ·rw[if_pos (by decide)];exact⟨by decide,fun h=>by cases h⟩
 ·replace hm:(lv (at8 k (A:Int))&&lv (at8 k (B:Int)))=true:=hm;simp only[Bool.and_eq_true] at hm;have hg:=nZ hm.1;have hgb:=nZ hm.2;have h1:=(h.obj B hB hgb).1;have hfe:=h.field hok hA hg x;have e2:fA a ⟨11,A,B,x⟩=if aH a.heap (a.reg (A:Int)) x≠0 then aH a.heap (a.reg (A:Int)) x else if((11:Int)=9∧(a.reg (B:Int)).k≠1)∨((11:Int)=11∧(a.reg (B:Int)).k≠2) then 8 else 0:=rfl
  rw[e2];rcases hfe with e|e<;>rw[e]
  ·rw[if_neg (by decide),if_neg (by simp[h1])];refine⟨by decide,fun _=>?_⟩;show ∃o',bf (eF k ⟨11,A,B,x⟩) (a.af (Go.Proofs.YtdmocjnjbihloaaDoor.setH a.heap (a.reg (A:Int)) x (a.reg (B:Int)))) o'
   rw[bf.setH hok e];by_cases q:A=B∨at8 k (B:Int)=2
   ·rw[nQ q];exact h.putS hA hB hg q _
   ·rw[tT q];refine h.putU hA hB hg ?_ (fun e=>q (.inl e)) _;unfold grp at hgb ⊢;rw[if_neg (fun e=>q (.inr e))] at hgb ⊢;split at hgb
    ·rename_i q3;rw[if_pos q3]
    ·exact absurd rfl hgb
  ·rw[if_pos (by decide)];exact⟨by decide,fun h=>by cases h⟩
 ·refine⟨by show(0:Int)≠8;decide,fun _=>?_⟩;show ∃o',bf (eF k ⟨12,A,B,x⟩) (a.ai (A:Int) (a.reg (B:Int))) o'
  by_cases q:at8 k (B:Int)=3
  ·rw[sI q,q];refine h.moveU h8 hA hB ?_;unfold grp;rw[if_neg (by rw[q];decide),if_pos q]
  ·rw[sM q];exact h.moveO h8 hA hB q
 ·exact absurd hab (by decide)
 ·exact absurd hab (by decide)
 ·exact absurd hab (by decide)
 ·exact⟨by show(0:Int)≠8;decide,fun _=>h.numW h8 hA rfl⟩
 ·exact absurd hab (by decide)
 ·exact⟨by show(0:Int)≠8;decide,fun _=>⟨_,h.nilW h8 hA aQ⟩⟩
 ·exact⟨by show(1:Int)≠8;decide,fun he=>absurd (show(1:Int)=0 from he) (by decide)⟩
theorem bf.reach (h:bf k a o) (hok:bu ps n a) {A:Nat} (hA:A<8) (hg:grp k A≠0):∃l,ay a.heap.ah [a.reg (A:Int)]=l∧Led a.heap.ah [a.reg (A:Int)] [] l∧Told a.heap.ah.length l∧∀x∈l,o x=grp k A:=by
 obtain⟨l,e,hl,ht⟩:=led_of (h:=a.heap) (v:=a.reg (A:Int)) (aR.2 ⟨hok.hp,fun v hv=>by simp at hv;subst hv;exact hok.reg _⟩);refine⟨l,e,hl,ht,h.heap.led hl hg (fun v hv _=>?_) (fun _ h=>by cases h)⟩;simp at hv
 subst hv;exact(h.obj A hA hg).2
theorem bf.whole (h:bf k a o) (hok:bu ps n a) {A:Nat} (hA:A<8) (hg:grp k A≠0):spoilt a.heap (a.reg (A:Int))=false:=by
 obtain⟨l,e,hl,ht,hx⟩:=h.reach hok hA hg;have hp:hpB a.heap [a.reg (A:Int)]=true:=aR.2 ⟨hok.hp,fun v hv=>by simp at hv;subst hv;exact hok.reg _⟩;unfold spoilt;rw[hp,e];have:l.any (aV a.heap.ah)=false:=by
  rw[List.any_eq_false];intro x hxl;rw[h.heap.live x (by rw[hx x hxl];exact hg)];decide
 rw[this];rfl
theorem bf.land (h:bf k a o) {fr:List Ob} {v:V} {l:List Int} (hl:Led fr [v] [] l) (hv:v.k=2) (m:Int):∃o',bf k ((a.af ⟨m,gW fr a.heap.ah l l.length⟩).aK (a.box++[aI (plM a.heap.ah.length l) v])) o':=by
 have hk:∀x,o x≠0→¬((a.heap.ah.length:Int)≤x∧x<(a.heap.ah.length:Int)+(l.length:Int)):=fun x hx=>by have:=h.heap.in_ x hx;omega
 have hm:v.n∈l:=hl.roots v (by simp) hv;have hp:=oW (n:=a.heap.ah.length) hm;refine⟨_,h.k8,h.num,fun r hr8 h1=>?_,fun j x hx=>?_,h.heap.to hl (20+a.box.length)⟩
 ·obtain⟨g1,g2⟩:=h.obj r hr8 h1;refine⟨g1,?_⟩;show(if _ then _ else o (a.reg (r:Int)).n)=_
  rw[if_neg (hk _ (by show o (a.reg (r:Int)).n≠0;rw[g2];exact h1)),g2]
 ·replace hx:(a.box++[aI (plM a.heap.ah.length l) v])[j]?=some x:=hx;rcases Nat.lt_trichotomy j a.box.length with hj|hj|hj
  ·rw[List.getElem?_append_left hj] at hx;obtain⟨g1,g2⟩:=h.box j x hx;refine⟨g1,?_⟩;try dsimp only
   rw[if_neg (hk _ (by rw[g2];omega)),g2]
  ·subst hj;simp at hx
   subst hx;refine⟨by rw[fK];exact hv,?_⟩;try dsimp only
   rw[newV_nn hv,if_pos ⟨by omega,by omega⟩]
  ·rw[List.getElem?_eq_none (by simp;omega)] at hx
   cases hx
theorem bf.loop (h:bf k a o) (h8:a.regs.length=8) {A:Nat} (hA:A<8) (hg:grp k A=2+A):∃o',bf (k.set A 0) ((a.aK (a.box++[a.reg (A:Int)])).ai (A:Int) aQ) o':=by
 obtain⟨g1,g2⟩:=h.obj A hA (by rw[hg];omega);have f0:(fun x=>if x=2+A then 20+a.box.length else x) 0=0:=(by(try dsimp only);rw[if_neg (by omega)]);have hr:∀r:Nat,((a.aK (a.box++[a.reg (A:Int)])).ai (A:Int) aQ).reg (r:Int)=if r=A then aQ else a.reg (r:Int):=fun r=>rh (a:=a.aK (a.box++[a.reg (A:Int)])) h8 hA
 refine⟨fun n=>(fun x=>if x=2+A then 20+a.box.length else x) (o n),by rw[List.length_set];exact h.k8,fun r hr8 h1=>?_,fun r hr8 h1=>?_,fun j x hx=>?_,h.heap.map (f:=fun x=>if x=2+A then 20+a.box.length else x) f0⟩
 ·rw[hr];rw[gF h.k8 hA] at h1;by_cases e:r=A
  ·rw[if_pos e] at h1;cases h1
  ·rw[if_neg e] at h1 ⊢;exact h.num r hr8 h1
 ·rw[hr];by_cases e:r=A
  ·subst e;exact absurd (by rw[iP h.k8 hA];rfl) h1
  ·rw[if_neg e];rw[kP h.k8 hA e] at h1 ⊢;obtain⟨q1,q2⟩:=h.obj r hr8 h1;refine⟨q1,?_⟩;try dsimp only
   rw[q2,if_neg (by rcases lX k r with e1|e1|e1<;>rw[e1]<;>omega)]
 ·replace hx:(a.box++[a.reg (A:Int)])[j]?=some x:=hx;rcases Nat.lt_trichotomy j a.box.length with hj|hj|hj
  ·rw[List.getElem?_append_left hj] at hx;obtain⟨q1,q2⟩:=h.box j x hx;refine⟨q1,?_⟩;try dsimp only
   rw[q2,if_neg (by omega)]
  ·subst hj;simp at hx
   subst hx;refine⟨g1,?_⟩;try dsimp only
   rw[g2,hg,if_pos rfl]
  ·rw[List.getElem?_eq_none (by simp;omega)] at hx
   cases hx
theorem bf.gone (h:bf k a o) (h8:a.regs.length=8) {A:Nat} (hA:A<8) (hg:grp k A=2+A) {l:List Int} (hl:∀x∈l,o x=grp k A) (m:Int):∃o',bf (k.set A 0) ((a.af ⟨m,bN a.heap.ah l⟩).ai (A:Int) aQ) o':=
 ⟨_,(h.nilW h8 hA aQ).af (g:=⟨m,bN a.heap.ah l⟩) ((h.nilW h8 hA aQ).heap.moved (fun x hx=>by(try dsimp only);rw[hl x hx,hg];exact if_pos rfl))⟩
end
end
section
open Go.RowKit
section
variable {ps:List (List Ins)} {W:Wd} {n:Int} {o:Int→Nat} {k k':List Int} {a:Ac} {i:Ins}
def qE (ps:List (List Ins)) (a:Ac) (k:List Int):Prop:=(a.pc<0∧k=known0)∨(0≤a.pc∧(bQ (ps.getD a.kind.toNat []))[a.pc.toNat]?=some k)
theorem qE.same (h:qE ps a k) {b:Ac} (hk:b.kind=a.kind) (hp:b.pc=a.pc):qE ps b k:=by
 unfold qE at h ⊢;rw[hk,hp];exact h
def SAc (ps:List (List Ins)) (a:Ac):Prop:=a.fin≠8∧(a.fin=0→∃k o,qE ps a k∧bf k a o)
def Sound (ps:List (List Ins)) (W:Wd):Prop:=∀(j:Nat) (a:Ac),W.aa[j]?=some a→SAc ps a
def iV (ps:List (List Ins)) (W:Wd) (m:Nat):Prop:=∀(j:Nat) (a:Ac),j≠m→W.aa[j]?=some a→SAc ps a
theorem uD {p q:Nat} {b:Ac} (h:q≠p):(W.put p b).at_ q=W.at_ q:=by rw[gQ,if_neg (fun e=>h e.1)]
theorem oL {p:Nat} {b:Ac} (h:p<W.aa.length):(W.put p b).at_ p=b:=by rw[gQ,if_pos ⟨rfl,h⟩]
theorem Sound.x (h:Sound ps W) (m:Nat):iV ps W m:=fun j a _ ha=>h j a ha
theorem iV.put {m:Nat} (h:iV ps W m) (b:Ac):iV ps (W.put m b) m:=fun j a hj ha=>h j a hj (by rwa[jP hj] at ha)
theorem iV.all {m:Nat} (h:iV ps W m) {b:Ac} (hb:SAc ps b):Sound ps (W.put m b):=fun j a ha=>by
 rw[qY] at ha;by_cases e:j=m
 ·rw[if_pos e] at ha;by_cases hl:m<W.aa.length
  ·rw[if_pos hl] at ha;injection ha with ha;rw[←ha];exact hb
  ·rw[if_neg hl] at ha;cases ha
 ·rw[if_neg e] at ha;exact h j a e ha
theorem Sound.put (h:Sound ps W) {m:Nat} {b:Ac} (hb:SAc ps b):Sound ps (W.put m b):=(h.x m).all hb
theorem Sound.at_ (h:Sound ps W) {m:Nat} (hm:m<W.aa.length):SAc ps (W.at_ m):=h m _ (iJ hm)
theorem uA (a:Ac) (f:Int):(aL a f).kind=a.kind∧(aL a f).pc=a.pc∧(aL a f).fin=a.fin:=by
 obtain⟨s1,s2,s3,s4⟩:=qg a f;unfold aL;split
 ·exact⟨s1,s3,s4⟩
 ·exact⟨s1,s3,s4⟩
theorem tellA_same (a:Ac) (x y:Int):(iK a x y).kind=a.kind∧(iK a x y).pc=a.pc∧(iK a x y).fin=a.fin:=by
 unfold iK;split
 ·exact uA a 2
 ·exact uA a 2
theorem SAc.tell (h:SAc ps a) (hok:bu ps n a) {x y:Int} (hx:aY x=true) (hy:aY y=true):SAc ps (iK a x y):=by
 obtain⟨s1,s2,s3⟩:=tellA_same a x y;refine⟨by rw[s3];exact h.1,fun hf=>?_⟩;rw[s3] at hf;obtain⟨k,o,hk,ho⟩:=h.2 hf;obtain⟨o',h'⟩:=ho.tell hok hx hy;exact⟨k,o',hk.same s1 s2,h'⟩
theorem SAc.clear (h:SAc ps a) (hok:bu ps n a):SAc ps (aS a):=by
 obtain⟨s1,s2,s3,s4⟩:=mg a;refine⟨by rw[s4];exact h.1,fun hf=>?_⟩;rw[s4] at hf;obtain⟨k,o,hk,ho⟩:=h.2 hf;obtain⟨o',h'⟩:=ho.clear hok;exact⟨k,o',hk.same s1 s3,h'⟩
theorem Sound.tell (h:Sound ps W) (hok:bK ps W) {t x y:Int} (hx:aY x=true) (hy:aY y=true):Sound ps (gZ W t x y):=by
 unfold gZ;split
 ·rename_i ho
  simp only[gV,Bool.and_eq_true] at ho;obtain⟨h1,h2,h3⟩:=jR ho.1;exact h.put ((h.at_ h2).tell (hok.at_ h2) hx hy)
 ·exact h
theorem iV.end_ {m:Nat} (h:iV ps W m) (hok:bK ps W) (hm:m<W.aa.length) {how:Int} (h0:0≤how∧how≤8) (hne:how≠0) (hn8:how≠8):Sound ps (endW W m how):=by
 unfold endW;have h8:=hok.few;exact(h.all (b:=eP (W.at_ m) how) ⟨hn8,fun e=>absurd e hne⟩).tell (hok.put (fun hl=>(hok.at_ hl).eP h0.1 h0.2)) (gP (by omega) (by omega)) (gP (by omega) (by omega))
theorem bf.begun {kind par:Int} {h:Hp} {v:V} (hh:iW h.ah o) (hv:v.k=2) (ho:o v.n=2):bf known0 (dS kind par h v) o:=by
 refine⟨rfl,fun r _ h1=>?_,fun r _ h1=>?_,fun j x hx=>?_,hh⟩
 ·rw[qc] at h1;split at h1<;>cases h1
 ·rw[nG] at h1 ⊢;by_cases e:r=0
  ·subst e;exact⟨hv,ho⟩
  ·rw[if_neg e] at h1;exact absurd rfl h1
 ·exact absurd hx (by simp[dS])
theorem SAc.begun {kind par:Int} {h:Hp} {v:V} (hh:iW h.ah o) (hv:v.k=2) (ho:o v.n=2):SAc ps (dS kind par h v):=⟨by show(0:Int)≠8;decide,fun _=>⟨known0,o,.inl ⟨by show(-1:Int)<0;decide,rfl⟩,.begun hh hv ho⟩⟩
theorem iW.nil (f:Int→Nat) (hf:∀x,f x=0):iW [] f:=⟨fun x hx=>absurd (hf x) hx,fun x hx=>absurd (hf x) hx,fun x hx=>absurd (hf x) hx⟩
theorem rJ {m:Nat} (h:iV ps W m) (r:Int) (move:Bool):iV ps (dL W m r move) m:=by
 unfold dL;split
 ·exact h.put _
 ·exact h
theorem qi {m:Nat} (hm:m<W.aa.length) (r:Int) (move:Bool):(dL W m r move).at_ m=if move=true then(W.at_ m).ai r aQ else W.at_ m:=by
 unfold dL;split
 ·rw[gQ,if_pos ⟨rfl,hm⟩]
 ·rfl
theorem sU {fr tt:Hp} {v:V} (he:dU fr v tt=0):∃l,ay fr.ah [v]=l∧Led fr.ah [v] [] l∧(∀move,bC fr v tt (ay fr.ah [v]) move=⟨fr.most,bN fr.ah (if move then l else [])⟩)∧dA fr v tt (ay fr.ah [v])=⟨tt.most,gW fr.ah tt.ah l l.length⟩∧dX fr v tt (ay fr.ah [v])=aI (plM tt.ah.length l) v:=by
 obtain⟨l,e,hl,ht⟩:=led_of (sQ he);unfold dU at he;rw[e] at he ⊢;exact⟨l,rfl,hl,fun move=>if_pos he,if_pos he,if_pos he⟩
theorem moved_sound (h:Sound ps W) {m t:Nat} (hm:m<W.aa.length) (ht:t<W.aa.length) (hok:bK ps W) (hf:(W.at_ t).fin=0) (hk:bf k (W.at_ m) o) {A:Nat} (hA:A<8) (hg:grp k A≠0) {move:Bool} (hmv:move=true→grp k A=2+A∧t≠m):
  iV ps (fB W m t (A:Int) move) m∧(fB W m t (A:Int) move).aa.length=W.aa.length∧∃o',bf (if move=true then k.set A 0 else k) (if move=true then((fB W m t (A:Int) move).at_ m).ai (A:Int) aQ else(fB W m t (A:Int) move).at_ m) o':=by
 have h8:=(hok.at_ hm).regs;unfold fB;by_cases he:dU (W.at_ m).heap ((W.at_ m).reg (A:Int)) (W.at_ t).heap=0
 ·rw[if_neg (by simp[he])];obtain⟨l,e,hl,e1,e2,e3⟩:=sU he;obtain⟨l',e',hl',_,hx⟩:=hk.reach (hok.at_ hm) hA hg;have hll:l'=l:=e'.symm.trans e;subst hll;have hrk:=(hk.obj A hA hg).1;rw[e1,e2,e3];generalize hfr:(⟨(W.at_ m).heap.most,bN (W.at_ m).heap.ah (if move=true then l' else [])⟩:Hp)=fr;obtain⟨kt,ot,hkt,hot⟩:=(h.at_ ht).2 hf;have hland:∀g:Hp,SAc ps ((((W.at_ t).af g).af ⟨(W.at_ t).heap.most,gW (W.at_ m).heap.ah (W.at_ t).heap.ah l' l'.length⟩).aK ((W.at_ t).box++[aI (plM (W.at_ t).heap.ah.length l') ((W.at_ m).reg (A:Int))])):=fun g=>by
   obtain⟨o',h'⟩:=hot.land hl hrk (W.at_ t).heap.most;exact⟨(h.at_ ht).1,fun _=>⟨kt,o',hkt.same rfl rfl,h'⟩⟩
  refine⟨fun j b hj hb=>?_,by rw[dx,dx],?_⟩
  ·rw[qY] at hb;by_cases ej:j=t
   ·rw[if_pos ej] at hb;rw[if_pos (by rw[dx];exact ht)] at hb;injection hb with hb
    subst hb;have hne:t≠m:=fun q=>hj (ej.trans q);rw[uD hne];exact hland (W.at_ t).heap
   ·rw[if_neg ej,jP hj] at hb;exact h j b hb
  ·by_cases et:t=m
   ·subst et;have hmf:move=false:=by
     cases move
     ·rfl
     ·exact absurd rfl (hmv rfl).2
    subst hmf;rw[if_neg (by decide),if_neg (by decide),oL (by first|exact hm|(rw[dx];exact hm)),oL hm];exact hk.land hl hrk _
   ·rw[uD (Ne.symm et),oL hm]
    cases hmo:move
    ·rw[if_neg (by decide),if_neg (by decide)];refine⟨o,hk.af ?_⟩;rw[←hfr,hmo];show iW (bN (W.at_ m).heap.ah []) o
     rw[mi];exact hk.heap
    ·rw[if_pos rfl,if_pos rfl,←hfr,hmo];exact hk.gone h8 hA (hmv hmo).1 hx _
 ·rw[if_pos he];refine⟨h.x m,rfl,?_⟩
  cases move
  ·exact⟨o,hk⟩
  ·exact⟨_,hk.nilW h8 hA aQ⟩
theorem Sound.send (h:Sound ps W) (hok:bK ps W) {m:Nat} (hm:m<W.aa.length) (hk:bf k (W.at_ m) o) {A:Nat} (hA:A<8) (hg:grp k A≠0) (tt:Int) {move:Bool} (hmv:move=true→grp k A=2+A):
  iV ps (fq W m (A:Int) tt move) m∧∃o',bf (if move=true then k.set A 0 else k) ((fq W m (A:Int) tt move).at_ m) o':=by
 have h8:=(hok.at_ hm).regs;have stay:∀{W':Wd} {o1:Int→Nat},iV ps W' m→m<W'.aa.length→(W'.at_ m).regs.length=8→bf k (W'.at_ m) o1→iV ps (dL W' m (A:Int) move) m∧∃o',bf (if move=true then k.set A 0 else k) ((dL W' m (A:Int) move).at_ m) o':=fun {W' o1} hx hl h8' ho=>by
  refine⟨rJ hx _ _,?_⟩;rw[qi hl]
  cases move
  ·exact⟨o1,ho⟩
  ·exact⟨_,ho.nilW h8' hA aQ⟩
 unfold fq;rw[hk.whole (hok.at_ hm) hA hg,if_neg (by decide)];by_cases hop:gV W tt=false
 ·rw[if_pos hop];exact stay (h.x m) hm h8 hk
 ·rw[if_neg hop];have hop':gV W tt=true:=(by simpa using hop);simp only[gV,Bool.and_eq_true] at hop';obtain⟨t0,t1,t2⟩:=jR hop'.1;by_cases hs:tt=m∧move=true
  ·rw[if_pos hs];refine⟨rJ ((h.x m).put _) _ _,?_⟩;rw[qi (by rw[dx];exact hm),if_pos hs.2,if_pos hs.2,gQ,if_pos ⟨rfl,hm⟩];exact hk.loop h8 hA (hmv hs.2)
  ·rw[if_neg hs];have hroom:∃W1,iI W m tt.toNat (A:Int)=W1∧Sound ps W1∧bK ps W1∧W1.aa.length=W.aa.length∧(W1.at_ tt.toNat).fin=0∧∃o1,bf k (W1.at_ m) o1:=by
    unfold iI;by_cases hr:dU (W.at_ m).heap ((W.at_ m).reg (A:Int)) (W.at_ tt.toNat).heap=7
    ·rw[if_pos hr];refine⟨_,rfl,h.put ((h.at_ t1).clear (hok.at_ t1)),hok.put (fun hl=>(hok.at_ hl).clear),dx,?_,?_⟩
     ·rw[gQ,if_pos ⟨rfl,t1⟩];exact(mg _).2.2.2.trans t2
     ·rw[gQ];split
      ·rename_i hh
       rw[←hh.1];exact hk.clear (hok.at_ hm)
      ·exact⟨o,hk⟩
    ·rw[if_neg hr];exact⟨W,rfl,h,hok,rfl,t2,o,hk⟩
   obtain⟨W1,e,g1,g2,g3,g4,o1,g5⟩:=hroom;rw[e];obtain⟨q1,q2,o',q3⟩:=moved_sound g1 (by omega:m<W1.aa.length) (by omega:tt.toNat<W1.aa.length) g2 g4 g5 hA hg (move:=move) (fun hq=>⟨hmv hq,fun q=>hs ⟨by omega,hq⟩⟩);refine⟨rJ q1 _ _,o',?_⟩;rw[qi (by omega)];exact q3
theorem Sound.spawn (h:Sound ps W) (hok:bK ps W) {m:Nat} (hm:m<W.aa.length) (hk:bf k (W.at_ m) o) {A B:Nat} (hA:A<8) (hB:B<8) (hg:grp k B=2+B) {op x:Int}:
  eD W m ⟨op,A,B,x⟩≠8∧iV ps (eG W m ⟨op,A,B,x⟩) m∧(eD W m ⟨op,A,B,x⟩=0→∃o',bf ((k.set B 0).set A 1) ((eG W m ⟨op,A,B,x⟩).at_ m) o'):=by
 have h8:=(hok.at_ hm).regs;have hg0:grp k B≠0:=(by rw[hg];omega);obtain⟨l',e',hl',ht',hx⟩:=hk.reach (hok.at_ hm) hB hg0;have hrk:=(hk.obj B hB hg0).1;have hR:dU (W.at_ m).heap ((W.at_ m).reg (B:Int)) ⟨(W.at_ m).heap.most,[]⟩=0:=by
  have hp:hpB (W.at_ m).heap [(W.at_ m).reg (B:Int)]=true:=aR.2 ⟨(hok.at_ hm).hp,fun v hv=>by simp at hv;subst hv;exact(hok.at_ hm).reg _⟩;have hd:¬l'.any (aV (W.at_ m).heap.ah)=true:=by
   rw[Bool.not_eq_true,List.any_eq_false];intro y hy;rw[hk.heap.live y (by rw[hx y hy];exact hg0)];decide
  have hfit:=(hok.at_ hm).hp.fits;have hlen:=ht'.len;unfold dU dh;rw[e',if_neg (by rw[hp];decide),if_neg (by rw[bare_ok (hok.at_ hm).hp];decide),if_neg hd,if_neg (by simp;omega)]
 have hE:eD W m ⟨op,A,B,x⟩=if W.aa.length=8 then 6 else 0:=by
  unfold eD;dsimp only;rw[if_neg (by simp[hR]:¬dU (W.at_ m).heap ((W.at_ m).reg (B:Int)) ⟨(W.at_ m).heap.most,[]⟩≠0)]
 refine⟨by rw[hE];split<;>decide,?_⟩
 by_cases hl8:W.aa.length=8
 ·rw[if_pos hl8] at hE;unfold eG;rw[if_pos (by rw[hE];decide),hE];exact⟨h.x m,fun e=>by cases e⟩
 ·rw[if_neg hl8] at hE;unfold eG;rw[if_neg (by rw[hE];decide)];obtain⟨l,e,hl,e1,e2,e3⟩:=sU hR;have hll:l'=l:=e'.symm.trans e;subst hll;dsimp only;rw[e1,e2,e3];refine⟨fun j b hj hb=>?_,fun _=>?_⟩
  ·dsimp only at hb;by_cases hjl:j<W.aa.length
   ·rw[List.getElem?_append_left (by simpa using hjl),List.getElem?_set,if_neg (Ne.symm hj)] at hb;exact h j b hb
   ·by_cases hje:j=W.aa.length
    ·subst hje;simp at hb
     subst hb;have hto:=(iW.nil (fun _=>0) (fun _=>rfl)).to hl' 2;have hmem:((W.at_ m).reg (B:Int)).n∈l':=hl'.roots _ (by simp) hrk;have hp:=oW (n:=0) hmem;refine SAc.begun hto (by rw[fK];exact hrk) ?_;try dsimp only
     show(if _ then 2 else 0)=2
     rw[newV_nn hrk];refine if_pos ⟨?_,?_⟩
     ·simp only[List.length_nil];omega
     ·simp only[List.length_nil];omega
    ·rw[List.getElem?_eq_none (by simp;omega)] at hb
     cases hb
  ·rw[pR (W:=W) (by simp) hm];have hat:∀(b:Ac) (pr:List Td),(⟨W.aa.set m b,pr⟩:Wd).at_ m=b:=fun b pr=>by
    have:=gQ (W:=W) (i:=m) (j:=m) (b:=b);rw[if_pos ⟨rfl,hm⟩] at this;exact this
   rw[hat];obtain⟨o1,h1⟩:=hk.gone h8 hB hg hx (W.at_ m).heap.most;refine h1.numW ?_ hA rfl;simp[Ac.ai,Ac.af,h8]
theorem Sound.oK (h:Sound ps W) (hok:bK ps W) {m:Nat} (hm:m<W.aa.length) (hk:bf k (W.at_ m) o) (ha:0≤i.a∧i.a≤7) (hb:0≤i.b∧i.b≤7) (hmay:mayB k i=true) (hab:jv i.op=true):
  fu W m i≠8∧iV ps (bU W m i) m∧(fu W m i=0→∃o',bf (eF k i) ((bU W m i).at_ m) o'):=by
 obtain⟨op,ia,ib,x⟩:=i;dsimp only at ha hb hab;obtain⟨A,rfl⟩:=Int.eq_ofNat_of_zero_le ha.1;obtain⟨B,rfl⟩:=Int.eq_ofNat_of_zero_le hb.1;have hA:A<8:=(by omega);have hB:B<8:=(by omega);clear ha hb;have hc:op=13∨op=14∨op=15∨op=17:=by
  simp only[jv,Bool.or_eq_true,beq_iff_eq] at hab;omega
 rcases hc with rfl|rfl|rfl|rfl
 ·replace hmay:(at8 k (A:Int)==3&&at8 k (B:Int)==1)=true:=hmay;simp only[Bool.and_eq_true,beq_iff_eq] at hmay;have hg:grp k A=2+A:=(by unfold grp;rw[if_neg (by rw[hmay.1];decide),if_pos hmay.1]);have hg0:grp k A≠0:=(by rw[hg];omega);have r1:=(hk.obj A hA hg0).1;have r2:=hk.num B hB hmay.2;have hE:fu W m ⟨13,A,B,x⟩=0:=by
   show(if((W.at_ m).reg (A:Int)).k≠2∨((W.at_ m).reg (B:Int)).k≠1 then(8:Int) else if spoilt (W.at_ m).heap ((W.at_ m).reg (A:Int))=true then 8 else 0)=0
   rw[if_neg (by simp[r1,r2]),hk.whole (hok.at_ hm) hA hg0];rfl
  have hW:bU W m ⟨13,A,B,x⟩=fq W m (A:Int) ((W.at_ m).reg (B:Int)).n true:=by
   show(if((W.at_ m).reg (A:Int)).k≠2∨((W.at_ m).reg (B:Int)).k≠1 then W else fq W m (A:Int) ((W.at_ m).reg (B:Int)).n true)=_
   rw[if_neg (by simp[r1,r2])]
  rw[hE,hW];obtain⟨q1,q2⟩:=h.send hok hm hk hA hg0 ((W.at_ m).reg (B:Int)).n (move:=true) (fun _=>hg);exact⟨by decide,q1,fun _=>q2⟩
 ·replace hmay:(lv (at8 k (A:Int))&&at8 k (B:Int)==1)=true:=hmay;simp only[Bool.and_eq_true,beq_iff_eq] at hmay;have hg0:=nZ hmay.1;have r1:=(hk.obj A hA hg0).1;have r2:=hk.num B hB hmay.2;have hE:fu W m ⟨14,A,B,x⟩=0:=by
   show(if((W.at_ m).reg (A:Int)).k≠2∨((W.at_ m).reg (B:Int)).k≠1 then(8:Int) else if spoilt (W.at_ m).heap ((W.at_ m).reg (A:Int))=true then 8 else 0)=0
   rw[if_neg (by simp[r1,r2]),hk.whole (hok.at_ hm) hA hg0];rfl
  have hW:bU W m ⟨14,A,B,x⟩=fq W m (A:Int) ((W.at_ m).reg (B:Int)).n false:=by
   show(if((W.at_ m).reg (A:Int)).k≠2∨((W.at_ m).reg (B:Int)).k≠1 then W else fq W m (A:Int) ((W.at_ m).reg (B:Int)).n false)=_
   rw[if_neg (by simp[r1,r2])]
  rw[hE,hW];obtain⟨q1,q2⟩:=h.send hok hm hk hA hg0 ((W.at_ m).reg (B:Int)).n (move:=false) (fun e=>by cases e);exact⟨by decide,q1,fun _=>q2⟩
 ·replace hmay:(at8 k (A:Int)==1)=true:=hmay;have r1:=hk.num A hA (by simpa using hmay);have hE:fu W m ⟨15,A,B,x⟩=0:=by
   show(if((W.at_ m).reg (A:Int)).k=1 then(0:Int) else 8)=0
   rw[if_pos r1]
  have hW:∃pr,bU W m ⟨15,A,B,x⟩=⟨W.aa,pr⟩:=by
   show ∃pr,(if((W.at_ m).reg (A:Int)).k=1∧W.prints.length<500 then(⟨W.aa,W.prints++[⟨m,((W.at_ m).reg (A:Int)).n⟩]⟩:Wd) else W)=⟨W.aa,pr⟩
   split
   ·exact⟨_,rfl⟩
   ·exact⟨W.prints,rfl⟩
  obtain⟨pr,hW⟩:=hW;rw[hE,hW];exact⟨by decide,h.x m,fun _=>⟨o,hk⟩⟩
 ·replace hmay:(at8 k (B:Int)==3)=true:=hmay;have h3:at8 k (B:Int)=3:=(by simpa using hmay);have hg:grp k B=2+B:=(by unfold grp;rw[if_neg (by rw[h3];decide),if_pos h3]);have r1:=(hk.obj B hB (by rw[hg];omega)).1;have hE:fu W m ⟨17,A,B,x⟩=eD W m ⟨17,A,B,x⟩:=by
   show(if((W.at_ m).reg (B:Int)).k≠2 then(8:Int) else eD W m ⟨17,A,B,x⟩)=_
   rw[if_neg (by simp[r1])]
  have hW:bU W m ⟨17,A,B,x⟩=eG W m ⟨17,A,B,x⟩:=by
   show(if((W.at_ m).reg (B:Int)).k≠2 then W else eG W m ⟨17,A,B,x⟩)=_
   rw[if_neg (by simp[r1])]
  rw[hE,hW];exact h.spawn hok hm hk hA hB hg
theorem may_ofS {l:List Ins} (hb:nt l=none) {p:Nat} (hk:(bQ l)[p]?=some k) (h8:k.length=8) (ho:l[p]?=some i):mayB k i=true:=by
 have h1:=List.find?_eq_none.1 hb p (by simp;exact(zE.1 ho).1);match k,h8 with
 |x::xs,_=>
  rw[badI_some hk ho] at h1;simpa using h1
theorem known_next {l:List Ins} {p:Nat} (hk:(bQ l)[p]?=some k) (h8:k.length=8) (ho:l[p]?=some i) {t:Int} (ht:t∈lZ p i) (hl:t.toNat<l.length):∃k',(bQ l)[t.toNat]?=some k'∧Weak (eF k i) k':=by
 obtain⟨k',h1,h2,h3⟩:=flow_way hk (fun e=>by rw[e] at h8;cases h8) ho ht hl;exact⟨k',h1,fix_weak h2 (by rw[lN];exact h8) h3⟩
theorem next_way (hop:i.op≠0∧i.op≠19) {p:Nat} (hp:a.pc=p):bW a i∈lZ p i:=by
 unfold bW lZ;rw[if_neg hop.1,if_neg (by omega),hp];by_cases h6:i.op=6
 ·rw[if_pos (show i.op=6∨(i.op=5∧(a.reg i.a).n=0) from .inl h6),if_pos h6];simp
 ·rw[if_neg h6];by_cases h5:i.op=5
  ·rw[if_pos h5];split<;>simp
  ·rw[if_neg h5,if_neg (by rintro (q|q);exact h6 q;exact h5 q.1)];simp
theorem bf.take (h:bf known0 a o) (h8:a.regs.length=8) {v:V} {l:List V} (hb:a.box=v::l):∃o',bf [3,3,0,0,0,0,0,0] (((a.ai 1 v).aK l).aG 0) o':=by
 have hr:∀r:Nat,(((a.ai 1 v).aK l).aG 0).reg (r:Int)=if r=1 then v else a.reg (r:Int):=fun r=>rh (a:=a) h8 (A:=1) (by omega)
 obtain⟨v1,v2⟩:=h.box 0 v (by rw[hb];rfl);have at3:∀r:Nat,at8 [3,3,0,0,0,0,0,0] (r:Int)=if r<2 then 3 else 0:=fun r=>by
  unfold at8;rw[Int.toNat_natCast];match r with
  |0|1|2|3|4|5|6|7=>rfl
  |r+8=>simp
 have g3:∀r:Nat,grp [3,3,0,0,0,0,0,0] r=if r<2 then 2+r else 0:=fun r=>by
  unfold grp;rw[at3];by_cases e:r<2
  ·rw[if_pos e,if_pos e];rfl
  ·rw[if_neg e,if_neg e];rfl
 refine⟨fun n=>(fun x=>if x=2 then 2 else if x=20 then 3 else if 20≤x then x - 1 else 0) (o n),rfl,fun r _ h1=>?_,fun r hr8 h1=>?_,fun j x hx=>?_,h.heap.map (f:=fun x=>if x=2 then 2 else if x=20 then 3 else if 20≤x then x - 1 else 0) rfl⟩
 ·rw[at3] at h1;split at h1<;>cases h1
 ·rw[g3] at h1 ⊢;rw[hr];by_cases e:r=1
  ·subst e;rw[show(if(1:Nat)=1 then v else a.reg ((1:Nat):Int))=v from if_pos rfl];refine⟨v1,?_⟩;show(if o v.n=2 then 2 else _)=_
   rw[v2];rfl
  ·rw[if_neg e];by_cases e0:r=0
   ·subst e0;obtain⟨q1,q2⟩:=h.obj 0 (by omega) (by rw[nG];decide);refine⟨q1,?_⟩;try dsimp only
    rw[q2,nG];rfl
   ·rw[if_neg (by omega)] at h1;exact absurd rfl h1
 ·replace hx:l[j]?=some x:=hx;obtain⟨q1,q2⟩:=h.box (j+1) x (by rw[hb];simpa using hx);refine⟨q1,?_⟩;try dsimp only
  rw[q2,if_neg (by omega),if_neg (by omega),if_pos (by omega)];omega
theorem Sound.step (h:Sound ps W) (hok:bK ps W) (hv:(jf ps).2.2=0) {m:Nat} (hm:m<W.aa.length):Sound ps (stepW ps W m):=by
 obtain⟨hpf,hbad⟩:=nC hv;have a1:=hok.at_ hm;unfold stepW;by_cases hfin:(W.at_ m).fin=0
 ·rw[if_neg (by simp[hfin])];obtain⟨k,o,hka,hk⟩:=(h.at_ hm).2 hfin;have hkl:(W.at_ m).kind.toNat<ps.length:=(by have:=a1.pV;have:=a1.pW;omega);have hg:ps[(W.at_ m).kind.toNat]?=some ps[(W.at_ m).kind.toNat]:=zD hkl;have hl:ps.getD (W.at_ m).kind.toNat []=ps[(W.at_ m).kind.toNat]:=getD_some hg;have hlm:ps.getD (W.at_ m).kind.toNat []∈ps:=(by rw[hl];exact List.getElem_mem hkl);by_cases h0:0≤(W.at_ m).pc
  ·rw[if_pos h0];have hpc:=a1.pc1;obtain⟨p,hp⟩:=Int.eq_ofNat_of_zero_le h0;have hpl:p<(ps.getD (W.at_ m).kind.toNat []).length:=(by omega);have hrow:(bQ (ps.getD (W.at_ m).kind.toNat []))[p]?=some k:=by
    rcases hka with⟨q,_⟩|⟨_,q⟩
    ·omega
    ·rwa[hp,Int.toNat_natCast] at q
   obtain⟨c,hc⟩:∃c,ps.getD (W.at_ m).kind.toNat []=c:=⟨_,rfl⟩;rw[hc] at hrow hpl hlm hpc ⊢;have e1:(W.at_ m).pc.toNat=p:=(by omega);have hx:c[p]?=some (c.getD p ⟨0,0,0,0⟩):=(by rw[zD hpl,getD_some (zD hpl)]);rw[e1];generalize c.getD p ⟨0,0,0,0⟩=x at hx;have hi:=qW hpf hlm hx;have hmay:=may_ofS (hbad c hlm) hrow hk.k8 hx;have hi':nI ps.length (c.length:Int) (W.at_ m).pc x:=(by rw[hp];exact hi);have hcont:∀{b:Ac} {o':Int→Nat},b.kind=(W.at_ m).kind→b.fin=0→x.op≠0→x.op≠19→bf (eF k x) b o'→SAc ps (b.aG (bW (W.at_ m) x)):=fun {b o'} hbk hbf ho0 ho19 hbo=>by
    obtain⟨n1,n2⟩:=next_ok hi' h0 hpc ho19;have hway:=next_way (a:=W.at_ m) ⟨ho0,ho19⟩ hp;have hn0:0≤bW (W.at_ m) x:=by
     unfold bW;rw[if_neg ho0];split
     ·rename_i hj
      have:=hi'.jump (by omega);omega
     ·omega
    obtain⟨k',hk',hw⟩:=known_next hrow hk.k8 hx hway (by omega);obtain⟨o2,h2⟩:=hbo.weak hw;refine⟨by show b.fin≠8;rw[hbf];decide,fun _=>⟨k',o2,.inr ⟨hn0,?_⟩,h2.aG _⟩⟩;show(bQ (ps.getD b.kind.toNat []))[(bW (W.at_ m) x).toNat]?=some k'
    rw[hbk,hc];exact hk'
   by_cases hab:jv x.op=true
   ·obtain⟨q1,q2,q3⟩:=h.oK hok hm hk hi.a hi.b hmay hab;have hd:kF W m x=fu W m x:=(by unfold kF;rw[if_pos hab]);obtain⟨w1,w2⟩:=hok.left hm hfin hi';have hlw:kU W m x=bU W m x:=(by unfold kU;rw[if_pos hab]);rw[hlw] at w1 w2;by_cases he:kF W m x=0
    ·rw[if_pos he];rw[hd] at he;obtain⟨o',q4⟩:=q3 he;have hdw:didW W m x=(bU W m x).put m (((bU W m x).at_ m).aG (bW (W.at_ m) x)):=(by unfold didW;rw[if_pos hab]);rw[hdw];obtain⟨s1,s2,s3,s4⟩:=(gI (W:=W) m x).same m hm;have hop:x.op≠0∧x.op≠19:=by
      simp only[jv,Bool.or_eq_true,beq_iff_eq] at hab;omega
     exact q2.all (hcont s2 (s1.trans hfin) hop.1 hop.2 q4)
    ·rw[if_neg he,hlw];have hle:=qL W m x;exact q2.end_ w1 (Nat.lt_of_lt_of_le hm w2) hle he (by rw[hd];exact q1)
   ·have hab':jv x.op=false:=(by simpa using hab);obtain⟨q1,q2⟩:=hk.self a1 hi.a hi.b hi.op hmay hab' m;have hd:kF W m x=fA (W.at_ m) x:=(by unfold kF;rw[if_neg hab]);by_cases he:kF W m x=0
    ·rw[if_pos he];rw[hd] at he;obtain⟨o',q4⟩:=q2 he;have hdw:didW W m x=W.put m ((eZ m (W.at_ m) x).aG (bW (W.at_ m) x)):=(by unfold didW;rw[if_neg hab]);rw[hdw];have hl8:=hok.few;obtain⟨g1,g2,g3,g4,-⟩:=a1.self hfin hi' (by omega) m rfl he;by_cases ho:x.op=0
     ·rw[if_pos ho] at q4;refine h.put ⟨by show(eZ m (W.at_ m) x).fin≠8;rw[g2];decide,fun _=>⟨known0,o',.inl ⟨?_,rfl⟩,q4.aG _⟩⟩;show bW (W.at_ m) x<0
      unfold bW;rw[if_pos ho];decide
     ·rw[if_neg ho] at q4;have h19:x.op≠19:=fun e=>by
       unfold fA at he;rw[e] at he;revert he
       simp
      exact h.put (hcont g3 g2 ho h19 q4)
    ·rw[if_neg he];have hle:=qL W m x;obtain⟨w1,w2⟩:=hok.left hm hfin hi';have hX:iV ps (kU W m x) m:=by
      unfold kU;rw[if_neg hab];split
      ·exact(h.x m).put _
      ·exact h.x m
     exact hX.end_ w1 (Nat.lt_of_lt_of_le hm w2) hle he (by rw[hd];exact q1)
  ·rw[if_neg h0];have hk0:k=known0:=by
    rcases hka with⟨_,q⟩|⟨q,_⟩
    ·exact q
    ·exact absurd q h0
   subst hk0;split
   ·exact h
   ·rename_i v l hb
    obtain⟨o1,h1⟩:=hk.take a1.regs hb;obtain⟨k',hk',hw⟩:=flow_first (ps.getD (W.at_ m).kind.toNat []);obtain⟨o2,h2⟩:=h1.weak hw;refine h.put ⟨(h.at_ hm).1,fun _=>⟨k',o2,.inr ⟨by show(0:Int)≤0;decide,hk'⟩,h2⟩⟩
 ·rw[if_pos hfin];exact h
theorem Sound.act (h:Sound ps W) (hok:bK ps W) (hv:(jf ps).2.2=0) {d:ig} (hd:cO d=0):Sound ps (iY ps W d):=by
 unfold cO at hd;split at hd
 ·cases hd
 rename_i hk
 split at hd
 ·cases hd
 rename_i hr
 unfold iY;split
 ·exact h
 ·rename_i hl
  split
  ·exact h.step hok hv (by omega)
  ·split
   ·exact h.put ((h.at_ (by omega)).clear (hok.at_ (by omega)))
   ·exact h.tell hok (by simp[aY];omega) (by simp[aY];omega)
theorem Sound.new (most:Int):Sound ps (fZ most):=fun j b hb=>by
 cases j with
 |succ j=>simp[fZ] at hb
 |zero=>
  simp[fZ] at hb
  subst hb;have:=((iW.nil (fun _=>0) (fun _=>rfl)).snoc ⟨[⟨1,0⟩,⟨1,0⟩],false⟩).1.claim (n:=0) ⟨by omega,by simp⟩ rfl (fun v hv=>by
   replace hv:v∈[(⟨1,0⟩:V),⟨1,0⟩]:=hv;simp at hv;subst hv;decide) rfl 2
  exact SAc.begun this rfl rfl
theorem Sound.run (hv:(jf ps).2.2=0):∀(l:List ig) (W:Wd),bK ps W→Sound ps W→(∀d∈l,cO d=0)→bK ps (l.foldl (iY ps) W)∧Sound ps (l.foldl (iY ps) W)
 | [],_,hw,hs,_=>⟨hw,hs⟩
 |d::l,W,hw,hs,hd=>Sound.run hv l _ (hw.act (nC hv).1 (hd d (by simp))) (hs.act hw hv (hd d (by simp))) (fun x hx=>hd x (by simp[hx]))
end
end
section
open Go.RowKit
theorem run_good {ps:List (List Ins)} {most:Int} {l:List ig} (hv:(jf ps).2.2=0) (hm:2≤most∧most≤60) (hl:l.length≤3000) (hd:∀d∈l,cO d=0):bK ps (runW ps most l)∧Sound ps (runW ps most l)∧∀a∈(runW ps most l).aa,a.fin≠8:=by
 obtain⟨_,e⟩:=run_ok hv hm hl hd;obtain⟨h1,h2⟩:=Sound.run hv l (fZ most) (bK.new (nC hv).1 hm) (Sound.new most) hd;rw[e];exact⟨h1,h2,fun a ha=>by
  obtain⟨j,hj⟩:=List.getElem?_of_mem ha;exact(h2 j a hj).1⟩
end
section
open Go.RowKit
set_option maxRecDepth 100000 in
set_option maxHeartbeats 4000000 in
theorem noBadT_one (x:Ac) (F G K:Option Addr) (f g k:Nat) (w:World) (hx:x.fin≠8):
  Calls Tryd.prog 33 #[.agg #[.int .i64 x.kind,.int .i64 x.parent,.int .i64 x.heap.most,.slice F x.heap.ah.length f,.slice G x.regs.length g,.int .i64 x.pc,.slice K x.box.length k,.int .i64 x.fin]] w fun e w'=>e= .returned (.bool false)∧Below w.heap.size w w':=by
 have e1:(x.fin==8)=false:=(by simpa using hx);clear hx;have T0:St w.heap.size w ((w.alloc (.cells #[.int .i64 x.kind,.int .i64 x.parent,.int .i64 x.heap.most,.slice F x.heap.ah.length f,.slice G x.regs.length g,.int .i64 x.pc,.slice K x.box.length k,.int .i64 x.fin] 39))) [.blk w.heap.size #[.int .i64 x.kind,.int .i64 x.parent,.int .i64 x.heap.most,.slice F x.heap.ah.length f,.slice G x.regs.length g,.int .i64 x.pc,.slice K x.box.length k,.int .i64 x.fin] 39]:=((St.start w (Nat.le_refl _)).new' #[.int .i64 x.kind,.int .i64 x.parent,.int .i64 x.heap.most,.slice F x.heap.ah.length f,.slice G x.regs.length g,.int .i64 x.pc,.slice K x.box.length k,.int .i64 x.fin] 39 (w.heap.size) (by simp)).1;have HT:=zG T0;have hz:w.heap.size+1≤(w.alloc (.cells #[.int .i64 x.kind,.int .i64 x.parent,.int .i64 x.heap.most,.slice F x.heap.ah.length f,.slice G x.regs.length g,.int .i64 x.pc,.slice K x.box.length k,.int .i64 x.fin] 39)).heap.size:=(by simp);clear T0;go_enter Tryd.func33,Tryd.ntmps33
 go_upto_region 1 with fail;generalize (w.alloc (.cells #[.int .i64 x.kind,.int .i64 x.parent,.int .i64 x.heap.most,.slice F x.heap.ah.length f,.slice G x.regs.length g,.int .i64 x.pc,.slice K x.box.length k,.int .i64 x.fin] 39))=W1 at*;have h_:=HT.rz 1;go_wp2_with fail;go_ret
 exact⟨rfl,HT.below⟩
set_option maxRecDepth 100000 in
set_option maxHeartbeats 4000000 in
theorem noBadT_ix (S:Nat→Prop) (A:Option Addr) (c:Nat) (l:List Ac) (w:World) (ha:aj acE w S (.slice A l.length c) l) (hn:∀x∈l,x.fin≠8):
  Calls Tryd.prog 57 #[.slice A l.length c,.func (.func 33) #[] #[]] w fun e w'=>e= .returned (.int .i64 (-1))∧Below w.heap.size w w':=by
 obtain⟨-,h1,h2,h3⟩:=ha.fw;have Ha:=zG ha;have HN:=zG hn;clear ha hn;have T0:St w.heap.size w w []:=St.start w (Nat.le_refl _);have HT:=zG T0;have hz:w.heap.size≤w.heap.size:=(by simp);replace Ha:Hid (aj acE w (Fr 0 []) (.slice A l.length c) l):=zG (Ha.pool (by decide) T0);clear T0;go_enter Tryd.func57,Tryd.ntmps57
 go_upto_region 1 with fail;go_wp2_with fail;go_loopw [8] (fun i wl1=>∃(k:Nat),i= .int .i64 k∧k≤l.length∧St w.heap.size w wl1 []∧aj acE wl1 (Fr 0 []) (.slice A l.length c) l∧w.heap.size≤wl1.heap.size) (fun i _=>l.length - (intOf i).toNat)
 case atStart=>
  refine⟨0,?_,?_,HT.out,Ha.out,hz⟩
  ·rfl
  ·omega
 case round=>
  generalize wr=wl1 at*;clear HT Ha hz;obtain⟨k,rfl,hk,ht,pHa,hz⟩:=hrel;have HT:=zG ht;have Ha:Hid (aj acE wl1 (Fr 0 []) (.slice A l.length c) l):=zG pHa;clear ht pHa;by_cases hlt:k<l.length
  ·have i1:(0:Int)≤(k:Int):=(by omega);have i2:(k:Int)<(l.length:Int):=(by omega);obtain⟨x,hx⟩:∃x,l[k]?=some x:=⟨l[k],zD hlt⟩;have hb8:=HN.out x (zF hx);obtain⟨ba,oa,F,f,G,g,K,k9,rfl,_,_,y0,y1,y2,y3,y4,y5,y6,y7,-,-,-⟩:=Ha.at_a hx;clear hx;replace Ha:Hid (aj acE wl1 (Fr 0 []) (.slice (some ⟨ba,oa,none⟩) l.length c) l):=Ha;have GN:=zG (noBadT_one x F G K f g k9 wl1 hb8);clear hb8;go_wp2_with fail;refine(GN.out).mono ?_;rintro en W2 ⟨rfl,hb⟩;replace⟨HT,Ha⟩:=sp1 (HT.call hb) Ha.s;replace hz:=Nat.le_trans hz hb.size;clear hb;clear GN y0 y1 y2 y3 y4 y5 y6 y7;go_wp2_with fail;go_roundw
   case rel=>
    refine⟨k+1,?_,?_,HT.out,Ha.out,hz⟩
    ·go_num
    ·omega
   case measure=>simp[intOf];omega
  ·have i2:¬(k:Int)<(l.length:Int):=(by omega);go_wp2_with fail;go_ret
   exact⟨rfl,HT.below⟩
set_option maxRecDepth 100000 in
theorem noBadT_any (S:Nat→Prop) (A:Option Addr) (c:Nat) (l:List Ac) (w:World) (ha:aj acE w S (.slice A l.length c) l) (hn:∀x∈l,x.fin≠8):
  Calls Tryd.prog 28 #[.slice A l.length c,.func (.func 33) #[] #[]] w fun e w'=>e= .returned (.bool false)∧Below w.heap.size w w':=by
 have GI:=zG (noBadT_ix S A c l w ha hn);clear ha hn;have T0:St w.heap.size w w []:=St.start w (Nat.le_refl _);have HT:=zG T0;have hz:w.heap.size≤w.heap.size:=(by simp);clear T0;go_enter Tryd.func28,Tryd.ntmps28
 go_upto_region 1 with fail;go_wp2_with fail;refine(GI.out).mono ?_;rintro en W1 ⟨rfl,hb⟩;replace HT:=sp0 (HT.call hb);replace hz:=Nat.le_trans hz hb.size;clear hb;go_wp2_with fail;go_ret
 exact⟨rfl,HT.below⟩
set_option maxRecDepth 100000 in
set_option maxHeartbeats 4000000 in
theorem noBadK_one (x:Ac) (F G K:Option Addr) (f g k:Nat) (w:World) (hx:x.fin≠8):
  Calls Tryd.prog 29 #[.agg #[.int .i64 x.kind,.int .i64 x.parent,.int .i64 x.heap.most,.slice F x.heap.ah.length f,.slice G x.regs.length g,.int .i64 x.pc,.slice K x.box.length k,.int .i64 x.fin]] w fun e w'=>e= .returned (.bool false)∧Below w.heap.size w w':=by
 have e1:(x.fin==8)=false:=(by simpa using hx);clear hx;have T0:St w.heap.size w ((w.alloc (.cells #[.int .i64 x.kind,.int .i64 x.parent,.int .i64 x.heap.most,.slice F x.heap.ah.length f,.slice G x.regs.length g,.int .i64 x.pc,.slice K x.box.length k,.int .i64 x.fin] 39))) [.blk w.heap.size #[.int .i64 x.kind,.int .i64 x.parent,.int .i64 x.heap.most,.slice F x.heap.ah.length f,.slice G x.regs.length g,.int .i64 x.pc,.slice K x.box.length k,.int .i64 x.fin] 39]:=((St.start w (Nat.le_refl _)).new' #[.int .i64 x.kind,.int .i64 x.parent,.int .i64 x.heap.most,.slice F x.heap.ah.length f,.slice G x.regs.length g,.int .i64 x.pc,.slice K x.box.length k,.int .i64 x.fin] 39 (w.heap.size) (by simp)).1;have HT:=zG T0;have hz:w.heap.size+1≤(w.alloc (.cells #[.int .i64 x.kind,.int .i64 x.parent,.int .i64 x.heap.most,.slice F x.heap.ah.length f,.slice G x.regs.length g,.int .i64 x.pc,.slice K x.box.length k,.int .i64 x.fin] 39)).heap.size:=(by simp);clear T0;go_enter Tryd.func29,Tryd.ntmps29
 go_upto_region 1 with fail;generalize (w.alloc (.cells #[.int .i64 x.kind,.int .i64 x.parent,.int .i64 x.heap.most,.slice F x.heap.ah.length f,.slice G x.regs.length g,.int .i64 x.pc,.slice K x.box.length k,.int .i64 x.fin] 39))=W1 at*;have h_:=HT.rz 1;go_wp2_with fail;go_ret
 exact⟨rfl,HT.below⟩
set_option maxRecDepth 100000 in
set_option maxHeartbeats 4000000 in
theorem noBadK_ix (S:Nat→Prop) (A:Option Addr) (c:Nat) (l:List Ac) (w:World) (ha:aj acE w S (.slice A l.length c) l) (hn:∀x∈l,x.fin≠8):
  Calls Tryd.prog 57 #[.slice A l.length c,.func (.func 29) #[] #[]] w fun e w'=>e= .returned (.int .i64 (-1))∧Below w.heap.size w w':=by
 obtain⟨-,h1,h2,h3⟩:=ha.fw;have Ha:=zG ha;have HN:=zG hn;clear ha hn;have T0:St w.heap.size w w []:=St.start w (Nat.le_refl _);have HT:=zG T0;have hz:w.heap.size≤w.heap.size:=(by simp);replace Ha:Hid (aj acE w (Fr 0 []) (.slice A l.length c) l):=zG (Ha.pool (by decide) T0);clear T0;go_enter Tryd.func57,Tryd.ntmps57
 go_upto_region 1 with fail;go_wp2_with fail;go_loopw [8] (fun i wl1=>∃(k:Nat),i= .int .i64 k∧k≤l.length∧St w.heap.size w wl1 []∧aj acE wl1 (Fr 0 []) (.slice A l.length c) l∧w.heap.size≤wl1.heap.size) (fun i _=>l.length - (intOf i).toNat)
 case atStart=>
  refine⟨0,?_,?_,HT.out,Ha.out,hz⟩
  ·rfl
  ·omega
 case round=>
  generalize wr=wl1 at*;clear HT Ha hz;obtain⟨k,rfl,hk,ht,pHa,hz⟩:=hrel;have HT:=zG ht;have Ha:Hid (aj acE wl1 (Fr 0 []) (.slice A l.length c) l):=zG pHa;clear ht pHa;by_cases hlt:k<l.length
  ·have i1:(0:Int)≤(k:Int):=(by omega);have i2:(k:Int)<(l.length:Int):=(by omega);obtain⟨x,hx⟩:∃x,l[k]?=some x:=⟨l[k],zD hlt⟩;have hb8:=HN.out x (zF hx);obtain⟨ba,oa,F,f,G,g,K,k9,rfl,_,_,y0,y1,y2,y3,y4,y5,y6,y7,-,-,-⟩:=Ha.at_a hx;clear hx;replace Ha:Hid (aj acE wl1 (Fr 0 []) (.slice (some ⟨ba,oa,none⟩) l.length c) l):=Ha;have GN:=zG (noBadK_one x F G K f g k9 wl1 hb8);clear hb8;go_wp2_with fail;refine(GN.out).mono ?_;rintro en W2 ⟨rfl,hb⟩;replace⟨HT,Ha⟩:=sp1 (HT.call hb) Ha.s;replace hz:=Nat.le_trans hz hb.size;clear hb;clear GN y0 y1 y2 y3 y4 y5 y6 y7;go_wp2_with fail;go_roundw
   case rel=>
    refine⟨k+1,?_,?_,HT.out,Ha.out,hz⟩
    ·go_num
    ·omega
   case measure=>simp[intOf];omega
  ·have i2:¬(k:Int)<(l.length:Int):=(by omega);go_wp2_with fail;go_ret
   exact⟨rfl,HT.below⟩
set_option maxRecDepth 100000 in
theorem noBadK_any (S:Nat→Prop) (A:Option Addr) (c:Nat) (l:List Ac) (w:World) (ha:aj acE w S (.slice A l.length c) l) (hn:∀x∈l,x.fin≠8):
  Calls Tryd.prog 28 #[.slice A l.length c,.func (.func 29) #[] #[]] w fun e w'=>e= .returned (.bool false)∧Below w.heap.size w w':=by
 have GI:=zG (noBadK_ix S A c l w ha hn);clear ha hn;have T0:St w.heap.size w w []:=St.start w (Nat.le_refl _);have HT:=zG T0;have hz:w.heap.size≤w.heap.size:=(by simp);clear T0;go_enter Tryd.func28,Tryd.ntmps28
 go_upto_region 1 with fail;go_wp2_with fail;refine(GI.out).mono ?_;rintro en W1 ⟨rfl,hb⟩;replace HT:=sp0 (HT.call hb);replace hz:=Nat.le_trans hz hb.size;clear hb;go_wp2_with fail;go_ret
 exact⟨rfl,HT.below⟩
end
end Go.Proofs.YtdmocjnjbihloaaDoor
