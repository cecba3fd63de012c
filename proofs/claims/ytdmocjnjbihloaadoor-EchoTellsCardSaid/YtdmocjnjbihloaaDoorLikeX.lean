/- The plain law: what was set is there, and nothing else has changed. Condition: a heap that may be, all alive. What is cleared up is the same but for places; what goes to another heap is the same there, in plain Lean. No condition; no run. Heaps and actors that are the same but for places, in plain Lean: it is an equivalence; to clear up changes nothing. No condition; no run. Worlds that are the same but for places: an act leads to worlds that are so again; to clear up changes nothing. In plain Lean. No condition; no run. Worlds that are the same but for places: what is sent and spawned, steps, acts, scripts that clear up more or less. In plain Lean. No condition; no run. -/
import Derived.Test.YtdmocjnjbihloaaDoorMayW
import Derived.Test.YtdmocjnjbihloaaDoorFormW
import Derived.Test.YtdmocjnjbihloaaDoorActM
import Derived.Test.YtdmocjnjbihloaaDoorMayS
namespace Go.Proofs.YtdmocjnjbihloaaDoor
section
end
section
open Go.RowKit
section
variable {os:List Ob}
theorem kept_at {K:List Int} {x:Int} (hx:x∈K):((K.map (iq os K))[(plM 0 K x).toNat]?)=some (iq os K x):=by
 have e:plM 0 K x=((K.idxOf x:Nat):Int):=by
  unfold plM;rw[if_pos hx];simp
 have hl:=List.idxOf_lt_length_of_mem hx;rw[e,Int.toNat_natCast,List.getElem?_map,zD hl,List.getElem_idxOf hl];rfl
theorem plM_inj {n:Nat} {K:List Int} {x y:Int} (hx:x∈K) (hy:y∈K) (e:plM n K x=plM n K y):x=y:=by
 unfold plM at e;rw[if_pos hx,if_pos hy] at e;have hl:=List.idxOf_lt_length_of_mem hx;have hl':=List.idxOf_lt_length_of_mem hy;have e':K.idxOf x=K.idxOf y:=(by omega);have h1:=List.getElem_idxOf hl;have h2:=List.getElem_idxOf hl';rw[←h1,←h2];congr 1
end
end
section
open Go.RowKit
structure iB (f:Int→Int) (S:Int→Prop) (os os':List Ob):Prop where
 inj:∀x y,S x→S y→f x=f y→x=y
 low:∀x,S x→0≤x∧x<(os.length:Int)
 low':∀x,S x→0≤f x∧f x<(os'.length:Int)
 fields:∀x,S x→fieldsOf os' (f x)=(fieldsOf os x).map (aI f)
 dead:∀x,S x→aV os' (f x)=aV os x
 shut:∀x,S x→∀v∈fieldsOf os x,v.k=2→S v.n
structure LkA (f:Int→Int) (S:Int→Prop) (a b:Ac):Prop where
 heap:iB f S a.heap.ah b.heap.ah
 roots:∀v∈aC a,v.k=2→S v.n
 regs:b.regs=a.regs.map (aI f)
 box:b.box=a.box.map (aI f)
 kind:b.kind=a.kind
 parent:b.parent=a.parent
 pc:b.pc=a.pc
 fin:b.fin=a.fin
 most:b.heap.most=a.heap.most
def fI (a b:Ac):Prop:=∃f S,LkA f S a b
theorem newV_same {f:Int→Int} {v:V} (h:v.k=2→f v.n=v.n):aI f v=v:=by
 unfold aI;split
 ·rename_i hk
  rw[h hk]
  cases v
  simp_all
 ·rfl
theorem newV_then {f g:Int→Int} (v:V):aI g (aI f v)=aI (fun x=>g (f x)) v:=by
 unfold aI;by_cases hk:v.k=2
 ·simp[hk]
 ·simp[hk]
theorem uH {f g:Int→Int} {v:V} (h:v.k=2→f v.n=g v.n):aI f v=aI g v:=by
 unfold aI;split
 ·rename_i hk;rw[h hk]
 ·rfl
section
variable {ps:List (List Ins)} {n:Int} {a b c:Ac} {f g:Int→Int} {S T:Int→Prop} {os os':List Ob}
theorem bu.like (h:bu ps n a):LkA (fun x=>x) (fun x=>0≤x∧x<(a.heap.ah.length:Int)) a a:=by
 have hm:∀l:List V,l=l.map (aI (fun x=>x)):=fun l=>by
  conv=>lhs;rw[←List.map_id l]
  exact List.map_congr_left fun v _=>(newV_same fun _=>rfl).symm
 exact⟨⟨fun _ _ _ _ e=>e,fun _ h=>h,fun _ h=>h,fun x _=>hm _,fun _ _=>rfl,fun x _ v hv hk=>rW (h.hp.field hv) hk⟩,fun v hv hk=>rW (h.vals v hv) hk,hm _,hm _,rfl,rfl,rfl,rfl,rfl⟩
theorem LkA.trans (h:LkA f S a b) (k:LkA g T b c):LkA (fun x=>g (f x)) (fun x=>S x∧T (f x)) a c:=by
 have hmm:∀l:List V,(l.map (aI f)).map (aI g)=l.map (aI (fun x=>g (f x))):=fun l=>by
  rw[List.map_map];exact List.map_congr_left fun v _=>newV_then v
 refine⟨⟨fun x y hx hy e=>h.heap.inj x y hx.1 hy.1 (k.heap.inj _ _ hx.2 hy.2 e),fun x hx=>h.heap.low x hx.1,fun x hx=>k.heap.low' _ hx.2,fun x hx=>?_,fun x hx=>(k.heap.dead _ hx.2).trans (h.heap.dead x hx.1),fun x hx v hv hk=>⟨h.heap.shut x hx.1 v hv hk,?_⟩⟩,fun v hv hk=>⟨h.roots v hv hk,?_⟩,?_,?_,k.kind.trans h.kind,k.parent.trans h.parent,k.pc.trans h.pc,k.fin.trans h.fin,k.most.trans h.most⟩
 ·rw[k.heap.fields _ hx.2,h.heap.fields x hx.1,hmm]
 ·have:=k.heap.shut (f x) hx.2 (aI f v) (by rw[h.heap.fields x hx.1];exact List.mem_map_of_mem hv) (by rw[fK];exact hk);rwa[fJ hk] at this
 ·have:=k.roots (aI f v) (by
   unfold aC at hv ⊢;rw[h.regs,h.box];rcases List.mem_append.1 hv with hv|hv
   ·exact List.mem_append_left _ (List.mem_map_of_mem hv)
   ·exact List.mem_append_right _ (List.mem_map_of_mem hv)) (by rw[fK];exact hk)
  rwa[fJ hk] at this
 ·rw[k.regs,h.regs,hmm]
 ·rw[k.box,h.box,hmm]
open Classical in
theorem LkA.symm (h:LkA f S a b):fI b a:=by
 let g:Int→Int:=fun y=>if e:∃x,S x∧f x=y then e.choose else 0
 have hg:∀x,S x→g (f x)=x:=fun x hx=>by
  have e:∃z,S z∧f z=f x:=⟨x,hx,rfl⟩;show(if e:∃z,S z∧f z=f x then e.choose else 0)=x
  rw[dif_pos e];exact h.heap.inj _ _ e.choose_spec.1 hx e.choose_spec.2
 have hm:∀l:List V,(∀v∈l,v.k=2→S v.n)→l=(l.map (aI f)).map (aI g):=fun l hl=>by
  rw[List.map_map];conv=>lhs;rw[←List.map_id l]
  refine List.map_congr_left fun v hv=>?_;show v=aI g (aI f v)
  rw[newV_then];exact(newV_same fun hk=>hg _ (hl v hv hk)).symm
 refine⟨g,fun y=>∃x,S x∧f x=y,⟨?_,?_,?_,?_,?_,?_⟩,?_,?_,?_,h.kind.symm,h.parent.symm,h.pc.symm,h.fin.symm,h.most.symm⟩
 ·rintro _ _ ⟨x,hx,rfl⟩ ⟨y,hy,rfl⟩ e;rw[hg x hx,hg y hy] at e;rw[e]
 ·rintro _ ⟨x,hx,rfl⟩;exact h.heap.low' x hx
 ·rintro _ ⟨x,hx,rfl⟩;rw[hg x hx];exact h.heap.low x hx
 ·rintro _ ⟨x,hx,rfl⟩;rw[hg x hx,h.heap.fields x hx];exact hm _ (h.heap.shut x hx)
 ·rintro _ ⟨x,hx,rfl⟩;rw[hg x hx];exact(h.heap.dead x hx).symm
 ·rintro _ ⟨x,hx,rfl⟩ v hv hk;rw[h.heap.fields x hx] at hv;obtain⟨u,hu,rfl⟩:=List.mem_map.1 hv;rw[fK] at hk;exact⟨u.n,h.heap.shut x hx u hu hk,by rw[fJ hk]⟩
 ·intro v hv hk;have:∃u∈aC a,v=aI f u:=by
   unfold aC at hv ⊢;rw[h.regs,h.box,←List.map_append] at hv;obtain⟨u,hu,rfl⟩:=List.mem_map.1 hv;exact⟨u,hu,rfl⟩
  obtain⟨u,hu,rfl⟩:=this;rw[fK] at hk;exact⟨u.n,h.roots u hu hk,by rw[fJ hk]⟩
 ·rw[h.regs];exact hm _ fun v hv hk=>h.roots v (List.mem_append_left _ hv) hk
 ·rw[h.box];exact hm _ fun v hv hk=>h.roots v (List.mem_append_right _ hv) hk
theorem fI.trans (h:fI a b) (k:fI b c):fI a c:=by
 obtain⟨f,S,h⟩:=h;obtain⟨g,T,k⟩:=k;exact⟨_,_,h.trans k⟩
theorem fI.symm (h:fI a b):fI b a:=by
 obtain⟨f,S,h⟩:=h;exact h.symm
theorem bu.jB (h:bu ps n a):fI a (aS a):=by
 obtain⟨l,hl,ht⟩:=kX.led h.heap;have hn:¬hpB a.heap (aC a)=false:=(by simp[aC,h.heap]);have e1:gU a.heap (aC a) l=⟨a.heap.most,(dF a.heap.ah.length l).map (iq a.heap.ah (dF a.heap.ah.length l))⟩:=(by unfold gU;rw[if_neg hn]);have e2:eT a.heap (aC a) l=(aC a).map (aI (plM 0 (dF a.heap.ah.length l))):=(by unfold eT;rw[if_neg hn]);have hin:∀x,x∈l→x∈dF a.heap.ah.length l:=fun x hx=>iC.2 ⟨hx,ht.within x hx⟩;rw[mo h hl,e1,e2];generalize dF a.heap.ah.length l=K at hin;have h8:=h.regs;refine⟨plM 0 K,fun x=>x∈l,⟨fun x y hx hy e=>plM_inj (hin x hx) (hin y hy) e,fun x hx=>ht.within x hx,fun x hx=>?_,fun x hx=>?_,fun x hx=>?_,fun x hx v hv hk=>hl.shut x hx v hv hk⟩,fun v hv hk=>hl.roots v hv hk,?_,?_,rfl,rfl,rfl,rfl,rfl⟩
 ·have:=oW (n:=0) (hin x hx);simp at this ⊢
  exact this
 ·show fieldsOf (K.map (iq a.heap.ah K)) (plM 0 K x)=_
  unfold fieldsOf;rw[kept_at (hin x hx)];rfl
 ·show aV (K.map (iq a.heap.ah K)) (plM 0 K x)=_
  unfold aV;rw[kept_at (hin x hx)];rfl
 ·show((aC a).map (aI (plM 0 K))).take 8=_
  rw[←List.map_take,aC,List.take_left' h8]
 ·show((aC a).map (aI (plM 0 K))).drop 8=_
  rw[←List.map_drop,aC,List.drop_left' h8]
theorem Led.inS (hS:∀x,S x→∀v∈fieldsOf os x,v.k=2→S v.n) {q:List V} {out r:List Int} (h:Led os q out r):(∀v∈q,v.k=2→S v.n)→(∀x∈out,S x)→∀x∈r,S x:=by
 induction h with
 |done out=>exact fun _ ho=>ho
 | @new v q out r hv _ ih=>
  intro hq ho;simp[fresh] at hv
  have hs:=hq v (by simp) hv.1;refine ih (fun x hx hk=>?_) (fun x hx=>?_)
  ·rcases List.mem_append.1 hx with hx|hx
   ·exact hq x (by simp[hx]) hk
   ·exact hS v.n hs x hx hk
  ·rcases List.mem_append.1 hx with hx|hx
   ·exact ho x hx
   ·simp at hx;subst hx;exact hs
 |old hv _ ih=>exact fun hq ho=>ih (fun x hx hk=>hq x (by simp[hx]) hk) ho
theorem iB.led (h:iB f S os os') {q:List V} {r:List Int} (hl:Led os q [] r) (hq:∀v∈q,v.k=2→S v.n):Led os' (q.map (aI f)) [] (r.map f)∧∀x∈r,S x:=
 ⟨hl.iso (S:=S) (fun x y hx hy=>h.inj x y hx hy) h.fields h.shut hq (fun x hx=>by cases hx),hl.inS h.shut hq (fun x hx=>by cases hx)⟩
noncomputable def live (a:Ac):Nat:=(ay a.heap.ah (aC a)).length
theorem LkA.rootsE (h:LkA f S a b):aC b=(aC a).map (aI f):=by unfold aC;rw[h.regs,h.box,List.map_append]
theorem LkA.live_eq (h:LkA f S a b) (ha:bu ps n a):live b=live a:=by
 obtain⟨l,hl,ht⟩:=kX.led ha.heap;unfold live;rw[h.rootsE,show ay b.heap.ah ((aC a).map (aI f))=l.map f from dM (h.heap.led hl h.roots).1,show ay a.heap.ah (aC a)=l from dM hl,List.length_map]
theorem bu.live_le (h:bu ps n a):live a≤a.heap.ah.length∧(aS a).heap.ah.length=live a:=by
 obtain⟨l,hl,ht⟩:=kX.led h.heap;have e:live a=l.length:=(by unfold live;rw[show ay a.heap.ah (aC a)=l from dM hl]);have hn:¬hpB a.heap (aC a)=false:=(by simp[aC,h.heap]);rw[e];refine⟨ht.len,?_⟩;rw[mo h hl];show(gU a.heap (aC a) l).ah.length=_
 unfold gU;rw[if_neg hn];simp[qA ht]
theorem bu.alloc_e (h:bu ps n a) (f:Int):bV a.heap f=if f<1∨4<f then 2 else if(a.heap.ah.length:Int)=a.heap.most then 7 else 0:=by
 unfold bV;rw[if_neg (by simp[h.hp.bare])]
theorem bu.given_iff (h:bu ps n a) (f:Int):bL a f=0↔(1≤f∧f≤4)∧(live a:Int)<a.heap.most:=by
 have hc:=h.clear.alloc_e f;have h0:=h.alloc_e f;obtain⟨l1,l2⟩:=h.live_le;have hf:=h.hp.fits;rw[l2,h.mr] at hc;unfold bL aD;by_cases hb:f<1∨4<f
 ·rw[if_pos hb] at h0;rw[h0,if_neg (by decide),h0];exact⟨fun e=>(by cases e),fun e=>by omega⟩
 ·rw[if_neg hb] at h0 hc;by_cases hm:(a.heap.ah.length:Int)=a.heap.most
  ·rw[if_pos hm] at h0;rw[if_pos h0,hc];split
   ·rename_i e
    exact⟨fun e=>(by cases e),fun e'=>by omega⟩
   ·rename_i e
    exact⟨fun _=>by omega,fun _=>rfl⟩
  ·rw[if_neg hm] at h0;rw[h0,if_neg (by decide),h0];exact⟨fun _=>by omega,fun _=>rfl⟩
theorem LkA.kz (h:LkA f S a b) (ha:bu ps n a) (hb:bu ps n b) (k:Int):bL b k=0↔bL a k=0:=by
 rw[ha.given_iff,hb.given_iff,h.live_eq ha,h.most]
theorem bu.jX (h:bu ps n a) (f:Int):fI a (aD a f):=by
 unfold aD;split
 ·exact h.jB
 ·exact⟨_,_,h.like⟩
def grow (f:Int→Int) (la lb:Nat) (x:Int):Int:=if x<la then f x else(lb:Int)+(x - la)
theorem kT (h:iB f S os os') {x:Int} (hx:S x) (lb:Nat):grow f os.length lb x=f x:=if_pos (h.low x hx).2
theorem jL {xs:List Ob} {x:Int} (h0:0≤x) (h1:x<(os.length:Int)):fieldsOf (os++xs) x=fieldsOf os x∧aV (os++xs) x=aV os x:=by
 unfold fieldsOf aV;rw[List.getElem?_append_left (by omega)];exact⟨rfl,rfl⟩
theorem ji {xs:List Ob} {k:Nat}:fieldsOf (os++xs) ((os.length:Int)+(k:Int))=fieldsOf xs (k:Int)∧aV (os++xs) ((os.length:Int)+(k:Int))=aV xs (k:Int):=by
 unfold fieldsOf aV;rw[show((os.length:Int)+(k:Int)).toNat=os.length+k by omega,List.getElem?_append_right (by omega),show os.length+k - os.length=k by omega,Int.toNat_natCast];exact⟨rfl,rfl⟩
theorem iB.more (h:iB f S os os') {xs xs':List Ob} (hl:xs'.length=xs.length)
  (hx:∀k:Nat,k<xs.length→fieldsOf xs' (k:Int)=(fieldsOf xs (k:Int)).map (aI (grow f os.length os'.length))∧aV xs' (k:Int)=aV xs (k:Int)∧∀v∈fieldsOf xs (k:Int),v.k=2→S v.n∨((os.length:Int)≤v.n∧v.n<(os.length:Int)+xs.length)):
  iB (grow f os.length os'.length) (fun x=>S x∨((os.length:Int)≤x∧x<(os.length:Int)+xs.length)) (os++xs) (os'++xs'):=by
 have new:∀x,((os.length:Int)≤x∧x<(os.length:Int)+xs.length)→∃k:Nat,k<xs.length∧x=(os.length:Int)+(k:Int)∧grow f os.length os'.length x=(os'.length:Int)+(k:Int):=fun x hh=>by
  refine⟨(x - os.length).toNat,by omega,by omega,?_⟩;unfold grow;rw[if_neg (by omega)];omega
 have low:=h.low;have low':=h.low';refine⟨fun x y hx hy e=>?_,fun x hh=>?_,fun x hh=>?_,fun x hh=>?_,fun x hh=>?_,fun x hh v hv hk=>?_⟩
 ·rcases hx with hx|hx
  ·rw[kT h hx] at e;rcases hy with hy|hy
   ·rw[kT h hy] at e;exact h.inj x y hx hy e
   ·obtain⟨k,_,_,e2⟩:=new y hy;have:=low' x hx;omega
  ·obtain⟨j,_,q1,q2⟩:=new x hx;rcases hy with hy|hy
   ·rw[kT h hy] at e;have:=low' y hy;omega
   ·obtain⟨k,_,_,e2⟩:=new y hy;omega
 ·rcases hh with hh|hh
  ·have:=low x hh;simp;omega
  ·simp;omega
 ·rcases hh with hh|hh
  ·rw[kT h hh];have:=low' x hh;simp;omega
  ·obtain⟨k,q0,q1,q2⟩:=new x hh;simp;omega
 ·rcases hh with hh|hh
  ·obtain⟨q1,q2⟩:=low x hh;obtain⟨p1,p2⟩:=low' x hh;rw[kT h hh,(jL p1 p2).1,(jL q1 q2).1,h.fields x hh];exact List.map_congr_left fun v hv=>uH fun hk=>(kT h (h.shut x hh v hv hk) _).symm
  ·obtain⟨k,q0,q1,q2⟩:=new x hh;rw[q2,q1,ji.1,ji.1];exact(hx k q0).1
 ·rcases hh with hh|hh
  ·obtain⟨q1,q2⟩:=low x hh;obtain⟨p1,p2⟩:=low' x hh;rw[kT h hh,(jL p1 p2).2,(jL q1 q2).2,h.dead x hh]
  ·obtain⟨k,q0,q1,q2⟩:=new x hh;rw[q2,q1,ji.2,ji.2];exact(hx k q0).2.1
 ·rcases hh with hh|hh
  ·obtain⟨q1,q2⟩:=low x hh;rw[(jL q1 q2).1] at hv;exact .inl (h.shut x hh v hv hk)
  ·obtain⟨k,q0,q1,q2⟩:=new x hh;rw[q1,ji.1] at hv;exact(hx k q0).2.2 v hv hk
theorem LkA.regrow (h:LkA f S a b) {os os':List Ob} {S':Int→Prop} {m:Int} {lb:Nat} (hh:iB (grow f a.heap.ah.length lb) S' os os') (hS:∀x,S x→S' x):LkA (grow f a.heap.ah.length lb) S' (a.af ⟨m,os⟩) (b.af ⟨m,os'⟩):=by
 have hm:∀l:List V,(∀v∈l,v∈aC a)→l.map (aI f)=l.map (aI (grow f a.heap.ah.length lb)):=fun l hl=>List.map_congr_left fun v hv=>uH fun hk=>(kT h.heap (h.roots v (hl v hv) hk) _).symm;exact⟨hh,fun v hv hk=>hS _ (h.roots v hv hk),h.regs.trans (hm _ fun v hv=>List.mem_append_left _ hv),h.box.trans (hm _ fun v hv=>List.mem_append_right _ hv),h.kind,h.parent,h.pc,h.fin,rfl⟩
theorem map_set {l:List V} {k:Nat} {v:V}:(l.set k v).map (aI f)=(l.map (aI f)).set k (aI f v):=by rw[List.map_set]
theorem LkA.reg (h:LkA f S a b) (r:Int):b.reg r=aI f (a.reg r):=by
 unfold Ac.reg;rw[h.regs,List.getD,List.getD,List.getElem?_map]
 cases a.regs[r.toNat]? with
 |none=>rfl
 |some v=>rfl
theorem reg_in (a:Ac) (r:Int):a.reg r=aQ∨a.reg r∈aC a:=by
 unfold Ac.reg;rw[List.getD]
 cases h:a.regs[r.toNat]? with
 |none=>exact .inl rfl
 |some v=>exact .inr (List.mem_append_left _ (zF h))
theorem LkA.regS (h:LkA f S a b) {r:Int} (hk:(a.reg r).k=2):S (a.reg r).n:=by
 rcases reg_in a r with e|e
 ·rw[e] at hk;cases hk
 ·exact h.roots _ e hk
theorem LkA.ai (h:LkA f S a b) (r:Int) {v:V} (hv:v.k=2→S v.n):LkA f S (a.ai r v) (b.ai r (aI f v)):=
 {h with
  roots:=fun x hx hk=>by
   rcases List.mem_append.1 hx with hx|hx
   ·rcases List.mem_or_eq_of_mem_set hx with hx|rfl
    ·exact h.roots x (List.mem_append_left _ hx) hk
    ·exact hv hk
   ·exact h.roots x (List.mem_append_right _ hx) hk
  regs:=by show b.regs.set _ _=(a.regs.set _ _).map _;rw[map_set,h.regs]}
theorem LkA.qZ (h:LkA f S a b) (r:Int) {v:V} (hv:v.k≠2):LkA f S (a.ai r v) (b.ai r v):=by
 have:=h.ai r (v:=v) (fun hk=>absurd hk hv);rwa[lG hv] at this
theorem LkA.aG (h:LkA f S a b) (x:Int):LkA f S (a.aG x) (b.aG x):={h with pc:=rfl}
theorem LkA.aK (h:LkA f S a b) {l:List V} (hl:∀v∈l,v.k=2→S v.n):LkA f S (a.aK l) (b.aK (l.map (aI f))):=
 {h with
  roots:=fun x hx hk=>by
   rcases List.mem_append.1 hx with hx|hx
   ·exact h.roots x (List.mem_append_left _ hx) hk
   ·exact hl x hx hk
  box:=rfl}
theorem LkA.af (h:LkA f S a b) {os os':List Ob} {m:Int} (hh:iB f S os os'):LkA f S (a.af ⟨m,os⟩) (b.af ⟨m,os'⟩):={h with heap:=hh,most:=rfl}
theorem oH {i j:Nat} {x:V} {y:Int} (hy:0≤y):fieldsOf (eY os i j x) y=(if y=(i:Int) then(fieldsOf os y).set j x else fieldsOf os y)∧aV (eY os i j x) y=aV os y:=by
 unfold fieldsOf aV;rw[iU];by_cases h:i=y.toNat
 ·have e:y=(i:Int):=(by omega);rw[if_pos h,if_pos e]
  cases os[y.toNat]?<;>exact⟨rfl,rfl⟩
 ·have e:¬y=(i:Int):=(by omega);rw[if_neg h,if_neg e];exact⟨rfl,rfl⟩
theorem iB.set (h:iB f S os os') {i:Int} (hi:S i) (j:Nat) {x:V} (hx:x.k=2→S x.n):iB f S (eY os i.toNat j x) (eY os' (f i).toNat j (aI f x)):=by
 obtain⟨i0,i1⟩:=h.low i hi;obtain⟨k0,k1⟩:=h.low' i hi;refine⟨h.inj,fun y hy=>by rw[fV];exact h.low y hy,fun y hy=>by rw[fV];exact h.low' y hy,fun y hy=>?_,fun y hy=>?_,fun y hy v hv hk=>?_⟩
 ·rw[(oH (h.low y hy).1).1,(oH (h.low' y hy).1).1];by_cases e:y=i
  ·subst e;rw[if_pos (by omega),if_pos (by omega),map_set,h.fields y hy]
  ·have e':f y≠f i:=fun e'=>e (h.inj y i hy hi e');rw[if_neg (by omega),if_neg (by omega),h.fields y hy]
 ·rw[(oH (h.low y hy).1).2,(oH (h.low' y hy).1).2,h.dead y hy]
 ·rw[(oH (h.low y hy).1).1] at hv;split at hv
  ·rcases List.mem_or_eq_of_mem_set hv with hv|rfl
   ·exact h.shut y hy v hv hk
   ·exact hx hk
  ·exact h.shut y hy v hv hk
theorem nz {l:List Int} {y:Int} (h0:0≤y) (h1:y<(os.length:Int)):fieldsOf (bN os l) y=(if y∈l then [] else fieldsOf os y)∧aV (bN os l) y=(if y∈l then true else aV os y):=by
 obtain⟨m,rfl⟩:=Int.eq_ofNat_of_zero_le h0;have hm:m<os.length:=(by omega);unfold fieldsOf aV;simp only[bN,Int.toNat_natCast,List.getElem?_mapIdx,zD hm,Option.map_some];by_cases h:(m:Int)∈l
 ·simp[h]
 ·simp[h]
theorem iB.moved (h:iB f S os os') {l:List Int} (hl:∀x∈l,S x):iB f S (bN os l) (bN os' (l.map f)):=by
 have hm:∀y,S y→(f y∈l.map f↔y∈l):=fun y hy=>⟨fun hh=>by
  obtain⟨x,hx,e⟩:=List.mem_map.1 hh;exact h.inj x y (hl x hx) hy e ▸ hx,List.mem_map_of_mem⟩
 refine⟨h.inj,fun y hy=>by rw[gL];exact h.low y hy,fun y hy=>by rw[gL];exact h.low' y hy,fun y hy=>?_,fun y hy=>?_,fun y hy v hv hk=>?_⟩
 ·rw[(nz (h.low y hy).1 (h.low y hy).2).1,(nz (h.low' y hy).1 (h.low' y hy).2).1];by_cases e:y∈l
  ·rw[if_pos e,if_pos ((hm y hy).2 e)];rfl
  ·rw[if_neg e,if_neg (fun h'=>e ((hm y hy).1 h')),h.fields y hy]
 ·rw[(nz (h.low y hy).1 (h.low y hy).2).2,(nz (h.low' y hy).1 (h.low' y hy).2).2];by_cases e:y∈l
  ·rw[if_pos e,if_pos ((hm y hy).2 e)]
  ·rw[if_neg e,if_neg (fun h'=>e ((hm y hy).1 h')),h.dead y hy]
 ·rw[(nz (h.low y hy).1 (h.low y hy).2).1] at hv;split at hv
  ·cases hv
  ·exact h.shut y hy v hv hk
theorem iB.qK (h:iB f S os os') {l:List Int} (hl:∀x∈l,S x):(l.map f).any (aV os')=l.any (aV os):=by
 rw[List.any_map];induction l with
 |nil=>rfl
 |cons x l ih=>
  rw[List.any_cons,List.any_cons,ih fun y hy=>hl y (by simp[hy])];congr 1
  exact h.dead x (hl x (by simp))
theorem LkA.given (h:LkA f S a b) (ha:bu ps n a) (hb:bu ps n b) (k:Int) (he:bL a k=0):∃g T,LkA g T (aL a k) (aL b k)∧fG b k=aI g (fG a k)∧((fG a k).k=2→T (fG a k).n):=by
 have he':=(h.kz ha hb k).2 he;obtain⟨f',S',h'⟩:fI (aD a k) (aD b k):=((ha.jX k).symm.trans ⟨f,S,h⟩).trans (hb.jX k);have e0:bV (aD a k).heap k=0:=he;have e1:bV (aD b k).heap k=0:=he';unfold aL fG;rw[if_pos he,if_pos he'];unfold bX bP;rw[if_pos e0,if_pos e0,if_pos e1,if_pos e1,h'.most];have hz:∀m:Nat,m<1→fieldsOf [di k.toNat] (m:Int)=List.replicate k.toNat ⟨0,0⟩∧aV [di k.toNat] (m:Int)=false:=fun m hm=>by
  have:m=0:=(by omega);subst this;exact⟨rfl,rfl⟩
 have hh:=h'.heap.more (xs:=[di k.toNat]) (xs':=[di k.toNat]) rfl (fun m hm=>by
  obtain⟨z1,z2⟩:=hz m (by simpa using hm);rw[z1,z2];refine⟨?_,rfl,fun v hv hk=>?_⟩
  ·rw[List.map_replicate];rfl
  ·rw[(List.mem_replicate.1 hv).2] at hk;cases hk)
 refine⟨_,_,h'.regrow hh (fun _ hx=> .inl hx),?_,fun _=> .inr ⟨Int.le_refl _,by show((aD a k).heap.ah.length:Int)<((aD a k).heap.ah.length:Int)+((1:Nat):Int);omega⟩⟩;rw[fJ (f:=grow f' (aD a k).heap.ah.length (aD b k).heap.ah.length) (v:=⟨2,((aD a k).heap.ah.length:Int)⟩) rfl];show(⟨2,((aD b k).heap.ah.length:Int)⟩:V)=⟨2,grow f' (aD a k).heap.ah.length (aD b k).heap.ah.length ((aD a k).heap.ah.length:Int)⟩
 unfold grow;rw[if_neg (by omega)];simp
end
end
section
open Go.RowKit
structure bH (W W':Wd):Prop where
 told:W'.prints=W.prints
 len:W'.aa.length=W.aa.length
 all:∀i:Nat,i<W.aa.length→fI (W.at_ i) (W'.at_ i)
section
variable {ps:List (List Ins)} {n:Int} {a b c d:Ac} {f g:Int→Int} {S T:Int→Prop} {W W' X:Wd} {i:Ins}
theorem bu.likeA (h:bu ps n a):fI a a:=⟨_,_,h.like⟩
theorem bK.like (h:bK ps W):bH W W:=⟨rfl,rfl,fun _ hi=>(h.at_ hi).likeA⟩
theorem bH.trans (h:bH W W') (k:bH W' X):bH W X:=⟨k.told.trans h.told,k.len.trans h.len,fun i hi=>(h.all i hi).trans (k.all i (by rw[h.len];exact hi))⟩
theorem bH.symm (h:bH W W'):bH W' W:=⟨h.told.symm,h.len.symm,fun i hi=>(h.all i (by rw[←h.len];exact hi)).symm⟩
theorem bH.put (h:bH W W') (m:Nat) (hb:m<W.aa.length→fI a b):bH (W.put m a) (W'.put m b):=
 ⟨h.told,by rw[dx,dx,h.len],fun i hi=>by
  rw[dx] at hi;rw[gQ,gQ,h.len];split
  ·rename_i hh;exact hb hh.2
  ·exact h.all i hi⟩
theorem bH.clear (h:bH W W') (hk:bK ps W') (m:Nat):bH W (W'.put m (aS (W'.at_ m))):=
 ⟨h.told,by rw[dx,h.len],fun i hi=>by
  rw[gQ];split
  ·rename_i hh
   obtain⟨rfl,h2⟩:=hh;exact(h.all i hi).trans (hk.at_ h2).jB
  ·exact h.all i hi⟩
theorem bH.lives (h:bH W W') (m:Int):gH W' m=gH W m:=by
 unfold gH;by_cases h1:0≤m∧m<W.aa.length
 ·obtain⟨f,S,hl⟩:=h.all m.toNat (by omega);rw[h.len,hl.fin]
 ·by_cases h0:0≤m
  ·have h2:¬m<(W.aa.length:Int):=fun e=>h1 ⟨h0,e⟩;rw[h.len];simp[h2]
  ·simp[h0]
theorem uq {m:Int} (h:gV W m=true):gH W m=true∧(W.at_ m.toNat).box.length≠6:=by
 simp only[gV,Bool.and_eq_true] at h;exact⟨h.1,by simpa using h.2⟩
theorem bH.open_ (h:bH W W') (m:Int):gV W' m=gV W m:=by
 unfold gV;rw[h.lives];by_cases hl:gH W m=true
 ·obtain⟨_,h2,_⟩:=jR hl;obtain⟨f,S,hk⟩:=h.all m.toNat h2;rw[hk.box,List.length_map]
 ·simp[hl]
theorem tellA_eq (ha:bu ps n a) (he:bL a 2=0) {x y:Int} (hx:aY x=true) (hy:aY y=true):
  iK a x y=((aD a 2).af ⟨(aD a 2).heap.most,(aD a 2).heap.ah++[⟨[⟨1,x⟩,⟨1,y⟩],false⟩]⟩).aK ((aD a 2).box++[⟨2,((aD a 2).heap.ah.length:Int)⟩]):=by
 have he':bV (aD a 2).heap 2=0:=he;obtain⟨t1,t2⟩:=two_ok (ha.ready 2).heap he' hx hy;obtain⟨g1,g2,g3,g4,g5⟩:=jE (ha.ready 2).heap he';have eA:aL a 2=(aD a 2).af (bX (aD a 2).heap 2):=if_pos he;unfold iK;rw[if_pos he,eA];show((aD a 2).af (twoH (bX (aD a 2).heap 2) (bP (aD a 2).heap 2) x y)).aK ((aD a 2).box++[bP (aD a 2).heap 2])=_
 rw[t2,g5]
theorem fI.tell (h:fI a b) (ha:bu ps n a) (hb:bu ps n b) {x y:Int} (hx:aY x=true) (hy:aY y=true):fI (iK a x y) (iK b x y):=by
 obtain⟨f,S,h⟩:=h;obtain⟨f',S',h'⟩:fI (aD a 2) (aD b 2):=((ha.jX 2).symm.trans ⟨f,S,h⟩).trans (hb.jX 2);by_cases he:bL a 2=0
 ·have he':=(h.kz ha hb 2).2 he;rw[tellA_eq ha he hx hy,tellA_eq hb he' hx hy,h'.most];have hh:=h'.heap.more (xs:=[⟨[⟨1,x⟩,⟨1,y⟩],false⟩]) (xs':=[⟨[⟨1,x⟩,⟨1,y⟩],false⟩]) rfl (fun m hm=>by
   have:m=0:=(by simpa using hm);subst this;refine⟨rfl,rfl,fun v hv hk=>?_⟩;simp[fieldsOf] at hv
   rcases hv with rfl|rfl<;>cases hk)
  have hg:=h'.regrow (m:=(aD a 2).heap.most) hh (fun _ hx=> .inl hx);have hb':(aD b 2).box=(aD a 2).box.map (aI (grow f' (aD a 2).heap.ah.length (aD b 2).heap.ah.length)):=hg.box;have hv:aI (grow f' (aD a 2).heap.ah.length (aD b 2).heap.ah.length) ⟨2,((aD a 2).heap.ah.length:Int)⟩=⟨2,((aD b 2).heap.ah.length:Int)⟩:=by
   rw[fJ rfl];show(⟨2,grow f' (aD a 2).heap.ah.length (aD b 2).heap.ah.length ((aD a 2).heap.ah.length:Int)⟩:V)=_
   unfold grow;rw[if_neg (by omega)];simp
  have hs:=hg.aK (l:=(aD a 2).box++[⟨2,((aD a 2).heap.ah.length:Int)⟩]) (fun v hv hk=>by
   rcases List.mem_append.1 hv with hv|hv
   ·exact .inl (h'.roots v (List.mem_append_right _ hv) hk)
   ·simp at hv
    subst hv;exact .inr ⟨Int.le_refl _,by show((aD a 2).heap.ah.length:Int)<((aD a 2).heap.ah.length:Int)+((1:Nat):Int);omega⟩)
  rw[List.map_append,←hb',List.map_cons,List.map_nil,hv] at hs;exact⟨_,_,hs⟩
 ·have he':¬bL b 2=0:=fun e=>he ((h.kz ha hb 2).1 e);unfold iK aL;rw[if_neg he,if_neg he',if_neg he,if_neg he'];exact⟨_,_,h'⟩
theorem fI.gone (h:fI a b) (ha:bu ps n a) {how:Int} (h0:0≤how) (h8:how≤8):fI (eP a how) (eP b how):=by
 obtain⟨f,S,h⟩:=h;have e:eP b how=eP a how:=(by unfold eP;rw[h.kind,h.parent,h.most]);rw[e];exact(ha.eP h0 h8).likeA
theorem bH.tell (h:bH W W') (hW:bK ps W) (hW':bK ps W') (m:Int) {x y:Int} (hx:aY x=true) (hy:aY y=true):bH (gZ W m x y) (gZ W' m x y):=by
 unfold gZ;rw[h.open_];split
 ·rename_i ho
  obtain⟨_,h2,_⟩:=jR (uq ho).1;exact h.put _ (fun hm=>(h.all _ hm).tell (hW.at_ hm) (hW'.at_ (by rw[h.len];exact hm)) hx hy)
 ·exact h
theorem bH.end_ (h:bH W W') (hW:bK ps W) (hW':bK ps W') {m:Nat} (hm:m<W.aa.length) {how:Int} (h0:0≤how) (h8:how≤8):bH (endW W m how) (endW W' m how):=by
 unfold endW;have hp:(W'.at_ m).parent=(W.at_ m).parent:=(by obtain⟨f,S,hk⟩:=h.all m hm;exact hk.parent);have hf:=hW.few;rw[hp];exact(h.put m (fun hm=>(h.all m hm).gone (hW.at_ hm) h0 h8)).tell (hW.put fun hl=>(hW.at_ hl).eP h0 h8) (hW'.put fun hl=>(hW'.at_ hl).eP h0 h8) _ (gP (by omega) (by omega)) (gP (by omega) (by omega))
theorem uj {os:List Ob} {v:V} {j:Int} (hk:v.k=2) (h0:0≤v.n) (h1:v.n<(os.length:Int)):bJ os v j=if aV os v.n then 10 else if j<0∨((fieldsOf os v.n).length:Int)≤j then 2 else 0:=by
 obtain⟨m,hm⟩:=Int.eq_ofNat_of_zero_le h0;have hx:os[v.n.toNat]?=some os[v.n.toNat]:=zD (by omega);unfold bJ aV fieldsOf;rw[if_pos hk,hx]
theorem LkA.rH (ha:bu ps n a) (r:Int):hpB ⟨a.heap.most,a.heap.ah⟩ [a.reg r]=true:=aR.2 ⟨ha.hp,fun v hv=>by simp at hv;subst hv;exact ha.reg r⟩
theorem LkA.object (h:LkA f S a b) (r j:Int):bJ b.heap.ah (b.reg r) j=bJ a.heap.ah (a.reg r) j:=by
 rw[h.reg];by_cases hk:(a.reg r).k=2
 ·have hs:=h.regS hk;obtain⟨l1,l2⟩:=h.heap.low _ hs;obtain⟨m1,m2⟩:=h.heap.low' _ hs;rw[fJ hk,uj (v:=⟨2,f (a.reg r).n⟩) rfl m1 m2,uj hk l1 l2];show(if aV b.heap.ah (f (a.reg r).n) then _ else if _∨((fieldsOf b.heap.ah (f (a.reg r).n)).length:Int)≤j then _ else _)=_
  rw[h.heap.dead _ hs,h.heap.fields _ hs,List.length_map]
 ·rw[lG hk];unfold bJ;rw[if_neg hk,if_neg hk]
theorem LkA.fieldE (h:LkA f S a b) (ha:bu ps n a) (hb:bu ps n b) (r j:Int):aH b.heap (b.reg r) j=aH a.heap (a.reg r) j:=by
 have e:jC b.heap.most b.heap.ah (b.reg r) j=jC a.heap.most a.heap.ah (a.reg r) j:=by
  unfold jC;rw[if_pos (LkA.rH ha r),if_pos (LkA.rH hb r),h.object]
 unfold aH;rw[e]
theorem uE (os:List Ob) (v:V) (j:Int):fieldAt os v j=((fieldsOf os v.n)[j.toNat]?).getD ⟨0,0⟩:=by
 unfold fieldAt fieldsOf
 cases os[v.n.toNat]? with
 |none=>rfl
 |some o=>rfl
theorem LkA.sK (h:LkA f S a b) (ha:bu ps n a) (hb:bu ps n b) (r j:Int):cz b.heap (b.reg r) j=aI f (cz a.heap (a.reg r) j)∧((cz a.heap (a.reg r) j).k=2→S (cz a.heap (a.reg r) j).n):=by
 unfold cz fP;rw[h.object];by_cases ho:bJ a.heap.ah (a.reg r) j=0
 ·rw[if_pos ⟨LkA.rH hb r,ho⟩,if_pos ⟨LkA.rH ha r,ho⟩];obtain⟨hk,_⟩:=mH ho;have hs:=h.regS hk;rw[h.reg,fJ hk,uE,uE];show((fieldsOf b.heap.ah (f (a.reg r).n))[j.toNat]?).getD ⟨0,0⟩=_∧_
  rw[h.heap.fields _ hs,List.getElem?_map]
  cases hq:(fieldsOf a.heap.ah (a.reg r).n)[j.toNat]? with
  |none=>exact⟨rfl,fun h=>by cases h⟩
  |some u=>exact⟨rfl,fun h2=>h.heap.shut _ hs u (zF hq) h2⟩
 ·rw[if_neg (fun e=>ho e.2),if_neg (fun e=>ho e.2)];exact⟨rfl,fun h=>by cases h⟩
theorem LkA.regN (h:LkA f S a b) (r:Int) (hk:(a.reg r).k≠2):b.reg r=a.reg r:=by rw[h.reg,lG hk]
theorem LkA.regK (h:LkA f S a b) (r:Int):(b.reg r).k=(a.reg r).k:=by rw[h.reg,fK]
theorem LkA.fA (h:LkA f S a b) (ha:bu ps n a) (hb:bu ps n b) (i:Ins):fA b i=fA a i:=by
 unfold Go.Proofs.YtdmocjnjbihloaaDoor.fA;simp only[h.regK,h.fieldE ha hb,(h.sK ha hb _ _).1,fK,h.kz ha hb];by_cases h2:i.op=2∨i.op=3∨i.op=4
 ·by_cases hk:(a.reg i.a).k≠1∨(a.reg i.b).k≠1
  ·simp only[if_pos h2,if_pos hk]
  ·rw[h.regN i.a (by omega),h.regN i.b (by omega)]
 ·simp only[if_neg h2]
theorem set_zero (ha:bu ps n a) (hop:i.op=9∨i.op=11) (he:fA a i=0):bJ a.heap.ah (a.reg i.a) i.n=0∧setH a.heap (a.reg i.a) i.n (a.reg i.b)=⟨a.heap.most,eY a.heap.ah (a.reg i.a).n.toNat i.n.toNat (a.reg i.b)⟩:=by
 unfold fA at he;rw[if_neg (by omega),if_neg (by omega),if_neg (by omega),if_neg (by omega),if_neg (by omega),if_pos hop] at he;split at he
 ·rename_i h1;exact absurd he h1
 ·rename_i hfe
  have hobj:bJ a.heap.ah (a.reg i.a) i.n=0:=by
   simp only[Decidable.not_not] at hfe;unfold aH at hfe;split at hfe
   ·rename_i hg
    unfold jC at hg;split at hg
    ·exact hg
    ·cases hg
   ·split at hfe<;>cases hfe
  have hset:gz a.heap (a.reg i.a) i.n (a.reg i.b)=0:=by
   unfold gz;rw[if_neg (by rw[Bool.not_eq_false];exact aR.2 ⟨ha.hp,fun v hv=>by simp at hv;rcases hv with rfl|rfl<;>exact ha.reg _⟩)]
   exact hobj
  exact⟨hobj,(oD ha.heap hset).2⟩
theorem LkA.self (h:LkA f S a b) (ha:bu ps n a) (hb:bu ps n b) (m:Nat) (he:Go.Proofs.YtdmocjnjbihloaaDoor.fA a i=0):fI (eZ m a i) (eZ m b i):=by
 have he':Go.Proofs.YtdmocjnjbihloaaDoor.fA b i=0:=(h.fA ha hb i).trans he;have one:∀(r:Int) (v:V),v.k≠2→fI (a.ai r v) (b.ai r v):=fun r v hv=>⟨_,_,h.qZ r hv⟩;have two:∀(r:Int) (v:V),(v.k=2→S v.n)→fI (a.ai r v) (b.ai r (aI f v)):=fun r v hv=>⟨_,_,h.ai r hv⟩;unfold eZ;split
 ·refine⟨f,S,{h with roots:=fun v hv hk=>?_,regs:=?_}⟩
  ·simp only[aC,List.cons_append] at hv;rcases List.mem_cons.1 hv with rfl|hv
   ·exact h.regS hk
   ·rcases List.mem_append.1 hv with hv|hv
    ·rw[jd 7 v hv] at hk;cases hk
    ·exact h.roots v (List.mem_append_right _ hv) hk
  ·show b.reg 0::_=(a.reg 0::_).map _
   rw[List.map_cons,←h.reg,List.map_replicate];rfl
 ·split
  ·exact one _ _ (by simp)
  ·split
   ·rename_i h2
    have hk:¬((a.reg i.a).k≠1∨(a.reg i.b).k≠1):=fun hk=>by
     unfold Go.Proofs.YtdmocjnjbihloaaDoor.fA at he;rw[if_neg (by omega),if_pos h2,if_pos hk] at he
     cases he
    rw[h.regN i.a (by omega),h.regN i.b (by omega)];exact one _ _ (by simp)
   ·split
    ·rename_i h7
     have hg:bL a i.n=0:=by
      unfold Go.Proofs.YtdmocjnjbihloaaDoor.fA at he;rw[if_neg (by omega),if_neg (by omega),if_neg (by omega),if_pos h7] at he;split at he
      ·assumption
      ·cases he
     obtain⟨g,T,q1,q2,q3⟩:=h.given ha hb i.n hg;rw[if_pos hg,if_pos ((h.kz ha hb i.n).2 hg),q2];exact⟨g,T,q1.ai i.a q3⟩
    ·split
     ·obtain⟨q1,q2⟩:=h.sK ha hb i.b i.n;rw[q1];exact two _ _ q2
     ·split
      ·rename_i hop
       obtain⟨o1,o2⟩:=set_zero ha hop he;obtain⟨_,o3⟩:=set_zero hb hop he';obtain⟨hk,_⟩:=mH o1;have hs:=h.regS hk;rw[o2,o3,h.most,h.reg i.a,fJ hk,h.reg i.b];exact⟨f,S,h.af (h.heap.set hs _ (fun hk=>h.regS hk))⟩
      ·split
       ·rw[h.reg i.b];exact two _ _ (fun hk=>h.regS hk)
       ·split
        ·exact one _ _ (by decide)
        ·split
         ·exact one _ _ (by simp)
         ·exact⟨f,S,h⟩
theorem LkA.next (h:LkA f S a b) (he:i.op=5→(a.reg i.a).k=1):bW b i=bW a i:=by
 unfold bW;rw[h.pc];by_cases h5:i.op=5
 ·rw[h.regN i.a (by rw[he h5];decide)]
 ·simp only[h5,false_and,or_false]
theorem LkA.reach (h:LkA f S a b) (ha:bu ps n a) (r:Int):∃l,ay a.heap.ah [a.reg r]=l∧ay b.heap.ah [b.reg r]=l.map f∧Led a.heap.ah [a.reg r] [] l∧Told a.heap.ah.length l∧∀x∈l,S x:=by
 obtain⟨l,hl,ht⟩:=kX.led (LkA.rH ha r);have hq:∀v∈[a.reg r],v.k=2→S v.n:=fun v hv hk=>by simp at hv;subst hv;exact h.regS hk
 obtain⟨k1,k2⟩:=h.heap.led hl hq;rw[List.map_cons,List.map_nil,←h.reg] at k1;exact⟨l,dM hl,dM k1,hl,ht,k2⟩
theorem iB.part {os os' ts ts':List Ob} (h:iB f S os os') (hR:iB g T ts ts') {l:List Int} (hl:∀x∈l,S x) (hc:∀x∈l,∀v∈fieldsOf os x,v.k=2→v.n∈l):
  iB (grow g ts.length ts'.length) (fun x=>T x∨((ts.length:Int)≤x∧x<(ts.length:Int)+l.length)) (gW os ts l l.length) (gW os' ts' (l.map f) (l.map f).length)∧
   ∀v:V,(v.k=2→v.n∈l)→aI (plM ts'.length (l.map f)) (aI f v)=aI (grow g ts.length ts'.length) (aI (plM ts.length l) v)∧(v.k=2→(ts.length:Int)≤(aI (plM ts.length l) v).n∧(aI (plM ts.length l) v).n<(ts.length:Int)+l.length):=by
 have hi:∀x∈l,∀y∈l,f x=f y→x=y:=fun x hx y hy e=>h.inj x y (hl x hx) (hl y hy) e;have hp:∀x∈l,plM ts'.length (l.map f) (f x)=grow g ts.length ts'.length (plM ts.length l x)∧(ts.length:Int)≤plM ts.length l x∧plM ts.length l x<(ts.length:Int)+l.length:=fun x hx=>by
  have hlt:=List.idxOf_lt_length_of_mem hx;have e1:plM ts.length l x=(ts.length:Int)+(l.idxOf x:Int):=if_pos hx;have e2:plM ts'.length (l.map f) (f x)=(ts'.length:Int)+((l.map f).idxOf (f x):Int):=if_pos (List.mem_map_of_mem hx);rw[e1,e2,idx_map hi hx];unfold grow;rw[if_neg (by omega)];exact⟨by omega,by omega,by omega⟩
 have hv:∀v:V,(v.k=2→v.n∈l)→aI (plM ts'.length (l.map f)) (aI f v)=aI (grow g ts.length ts'.length) (aI (plM ts.length l) v)∧(v.k=2→(ts.length:Int)≤(aI (plM ts.length l) v).n∧(aI (plM ts.length l) v).n<(ts.length:Int)+l.length):=fun v hv=>by
  by_cases hk:v.k=2
  ·obtain⟨p1,p2,p3⟩:=hp v.n (hv hk);rw[fJ hk,fJ (v:=⟨2,f v.n⟩) rfl,fJ hk,fJ (v:=⟨2,plM ts.length l v.n⟩) rfl];exact⟨by show(⟨2,plM ts'.length (l.map f) (f v.n)⟩:V)=⟨2,_⟩;rw[p1],fun _=>⟨p2,p3⟩⟩
  ·rw[lG hk,lG hk,lG hk,lG hk];exact⟨rfl,fun e=>absurd e hk⟩
 refine⟨?_,hv⟩;rw[nE,nE];have hm:=hR.more (xs:=l.map (fun i=>(⟨(fieldsOf os i).map (aI (plM ts.length l)),false⟩:Ob))) (xs':=(l.map f).map (fun i=>(⟨(fieldsOf os' i).map (aI (plM ts'.length (l.map f))),false⟩:Ob))) (by simp) (fun k hk=>by
  have hkl:k<l.length:=(by simpa using hk);have hx:l[k]∈l:=List.getElem_mem hkl;have e1:fieldsOf (l.map (fun i=>(⟨(fieldsOf os i).map (aI (plM ts.length l)),false⟩:Ob))) (k:Int)=(fieldsOf os l[k]).map (aI (plM ts.length l)):=by
   unfold fieldsOf;rw[Int.toNat_natCast,List.getElem?_map,zD hkl];rfl
  have e2:fieldsOf ((l.map f).map (fun i=>(⟨(fieldsOf os' i).map (aI (plM ts'.length (l.map f))),false⟩:Ob))) (k:Int)=(fieldsOf os' (f l[k])).map (aI (plM ts'.length (l.map f))):=by
   unfold fieldsOf;rw[Int.toNat_natCast,List.getElem?_map,List.getElem?_map,zD hkl];rfl
  have e3:aV (l.map (fun i=>(⟨(fieldsOf os i).map (aI (plM ts.length l)),false⟩:Ob))) (k:Int)=false:=by
   unfold aV;rw[Int.toNat_natCast,List.getElem?_map,zD hkl];rfl
  have e4:aV ((l.map f).map (fun i=>(⟨(fieldsOf os' i).map (aI (plM ts'.length (l.map f))),false⟩:Ob))) (k:Int)=false:=by
   unfold aV;rw[Int.toNat_natCast,List.getElem?_map,List.getElem?_map,zD hkl];rfl
  rw[e1,e2,e3,e4,h.fields _ (hl _ hx),List.map_map,List.map_map];refine⟨List.map_congr_left fun v hv'=>(hv v (hc _ hx v hv')).1,rfl,fun v hv' hk'=> .inr ?_⟩;obtain⟨u,hu,rfl⟩:=List.mem_map.1 hv';rw[fK] at hk';rw[List.length_map];exact(hv u (hc _ hx u hu)).2 hk')
 rw[List.length_map] at hm;exact hm
end
end
section
open Go.RowKit
section
variable {ps:List (List Ins)} {n:Int} {a b c d:Ac} {f g:Int→Int} {S T:Int→Prop} {W W' X:Wd} {i:Ins}
theorem LkA.recv {os os':List Ob} (hR:LkA g T c d) (h:iB f S os os') {l:List Int} (hl:∀x∈l,S x) (hc:∀x∈l,∀v∈fieldsOf os x,v.k=2→v.n∈l) {v:V} (hv:v.k=2→v.n∈l) (m:Int):
  fI ((c.af ⟨m,gW os c.heap.ah l l.length⟩).aK (c.box++[aI (plM c.heap.ah.length l) v])) ((d.af ⟨m,gW os' d.heap.ah (l.map f) (l.map f).length⟩).aK (d.box++[aI (plM d.heap.ah.length (l.map f)) (aI f v)])):=by
 obtain⟨p1,p2⟩:=h.part hR.heap hl hc;have hg:=hR.regrow (m:=m) p1 (fun _ hx=> .inl hx);have hb:d.box=c.box.map (aI (grow g c.heap.ah.length d.heap.ah.length)):=hg.box;obtain⟨q1,q2⟩:=p2 v hv;have hs:=hg.aK (l:=c.box++[aI (plM c.heap.ah.length l) v]) (fun u hu hk=>by
  rcases List.mem_append.1 hu with hu|hu
  ·exact .inl (hR.roots u (List.mem_append_right _ hu) hk)
  ·simp at hu
   subst hu;rw[fK] at hk;exact .inr (q2 hk))
 rw[List.map_append,←hb,List.map_cons,List.map_nil,←q1] at hs;exact⟨_,_,hs⟩
theorem pE {fr tt:Hp} {v:V} {l:List Int} (hp:hpB fr [v]=true) (hq:hpB tt []=true) (hl:ay fr.ah [v]=l) (hd:l.any (aV fr.ah)=false):dU fr v tt=if tt.most<(tt.ah.length:Int)+(l.length:Int) then 7 else 0:=by
 unfold dU dh;rw[hl,if_neg (by simp[hp]),if_neg (by simp[hq]),if_neg (by simp[hd])]
theorem oM {fr tt:Hp} {v:V} {l:List Int} (hl:ay fr.ah [v]=l) (he:dU fr v tt=0):(∀mv,bC fr v tt (ay fr.ah [v]) mv=⟨fr.most,bN fr.ah (if mv then l else [])⟩)∧dA fr v tt (ay fr.ah [v])=⟨tt.most,gW fr.ah tt.ah l l.length⟩∧dX fr v tt (ay fr.ah [v])=aI (plM tt.ah.length l) v:=by
 unfold dU at he;rw[hl] at he ⊢;exact⟨fun mv=>if_pos he,if_pos he,if_pos he⟩
theorem bu.hp0 (h:bu ps n a):hpB a.heap []=true:=h.hp.bare
theorem bu.reg1 (h:bu ps n a) (r:Int):hpB a.heap [a.reg r]=true:=LkA.rH h r
theorem uB (hW:bK ps W) {m t:Nat} (hm:m<W.aa.length) (ht:t<W.aa.length) (hne:t≠m) (r:Int) (mv:Bool) {l:List Int} (hl:ay (W.at_ m).heap.ah [(W.at_ m).reg r]=l) (hd:l.any (aV (W.at_ m).heap.ah)=false):
  ∃R,fI (W.at_ t) R∧fB (iI W m t r) m t r mv=if(live (W.at_ t):Int)+(l.length:Int)≤(W.at_ t).heap.most then
   (W.put m ((W.at_ m).af ⟨(W.at_ m).heap.most,bN (W.at_ m).heap.ah (if mv then l else [])⟩)).put t ((R.af ⟨(W.at_ t).heap.most,gW (W.at_ m).heap.ah R.heap.ah l l.length⟩).aK (R.box++[aI (plM R.heap.ah.length l) ((W.at_ m).reg r)])) else W.put t R:=by
 have am:=hW.at_ hm;have at':=hW.at_ ht;have hR:=pE (am.reg1 r) at'.hp0 hl hd;obtain⟨l1,l2⟩:=at'.live_le;by_cases h1:(W.at_ t).heap.most<((W.at_ t).heap.ah.length:Int)+(l.length:Int)
 ·rw[if_pos h1] at hR;have e1:iI W m t r=W.put t (aS (W.at_ t)):=if_pos hR;have em:(W.put t (aS (W.at_ t))).at_ m=W.at_ m:=(by rw[gQ,if_neg (fun e=>hne e.1.symm)]);have et:(W.put t (aS (W.at_ t))).at_ t=aS (W.at_ t):=(by rw[gQ,if_pos ⟨rfl,ht⟩]);have hR2:=pE (am.reg1 r) at'.clear.hp0 hl hd;rw[l2,at'.mr] at hR2;refine⟨aS (W.at_ t),at'.jB,?_⟩;rw[e1];unfold fB;rw[em,et];by_cases h2:(W.at_ t).heap.most<(live (W.at_ t):Int)+(l.length:Int)
  ·rw[if_pos h2] at hR2;rw[if_pos (by rw[hR2];decide),if_neg (by omega)]
  ·rw[if_neg h2] at hR2;obtain⟨t1,t2,t3⟩:=oM hl hR2;have eat:∀Y,((W.put t (aS (W.at_ t))).put m Y).at_ t=aS (W.at_ t):=fun Y=>by rw[gQ,if_neg (fun e=>hne e.1),et]
   rw[if_neg (by rw[hR2];decide),if_pos (by omega),t1,t2,t3,eat,put_swap hne,bz,at'.mr]
 ·rw[if_neg h1] at hR;have e1:iI W m t r=W:=if_neg (by rw[hR];decide);refine⟨W.at_ t,at'.likeA,?_⟩;obtain⟨t1,t2,t3⟩:=oM hl hR;rw[e1];unfold fB;have eat:∀Y,(W.put m Y).at_ t=W.at_ t:=fun Y=>by rw[gQ,if_neg (fun e=>hne e.1)]
  rw[if_neg (by rw[hR];decide),if_pos (by omega),t1,t2,t3,eat]
theorem room_self (hW:bK ps W) {m:Nat} (hm:m<W.aa.length) (r:Int) {l:List Int} (hl:ay (W.at_ m).heap.ah [(W.at_ m).reg r]=l) (hd:l.any (aV (W.at_ m).heap.ah)=false):
  ∃R,fI (W.at_ m) R∧bu ps m R∧fB (iI W m m r) m m r false=if(live (W.at_ m):Int)+(l.length:Int)≤(W.at_ m).heap.most then
   W.put m ((R.af ⟨(W.at_ m).heap.most,gW R.heap.ah R.heap.ah (ay R.heap.ah [R.reg r]) (ay R.heap.ah [R.reg r]).length⟩).aK (R.box++[aI (plM R.heap.ah.length (ay R.heap.ah [R.reg r])) (R.reg r)])) else W.put m R:=by
 have am:=hW.at_ hm;have hR:=pE (am.reg1 r) am.hp0 hl hd;obtain⟨l1,l2⟩:=am.live_le;have fin:∀(V':Wd) (R:Ac),V'.aa.length=W.aa.length→V'.at_ m=R→dU R.heap (R.reg r) R.heap=0→fB V' m m r false=V'.put m ((R.af ⟨R.heap.most,gW R.heap.ah R.heap.ah (ay R.heap.ah [R.reg r]) (ay R.heap.ah [R.reg r]).length⟩).aK (R.box++[aI (plM R.heap.ah.length (ay R.heap.ah [R.reg r])) (R.reg r)])):=fun V' R hlen hat he=>by
  obtain⟨t1,t2,t3⟩:=oM rfl he;unfold fB;have eat:∀Y,(V'.put m Y).at_ m=Y:=fun Y=>by rw[gQ,if_pos ⟨rfl,by omega⟩]
  rw[hat,if_neg (by rw[he];decide),t1,t2,t3,eat,bz];rfl
 by_cases h1:(W.at_ m).heap.most<((W.at_ m).heap.ah.length:Int)+(l.length:Int)
 ·rw[if_pos h1] at hR;have e1:iI W m m r=W.put m (aS (W.at_ m)):=if_pos hR;have et:(W.put m (aS (W.at_ m))).at_ m=aS (W.at_ m):=(by rw[gQ,if_pos ⟨rfl,hm⟩]);obtain⟨f,S,hc⟩:=am.jB;obtain⟨l',k1,k2,k3,k4,k5⟩:=hc.reach am r;obtain rfl:l'=l:=k1.symm.trans hl;have hR2:=pE (am.clear.reg1 r) am.clear.hp0 k2 (by rw[hc.heap.qK k5];exact hd);rw[l2,am.mr,List.length_map] at hR2;refine⟨aS (W.at_ m),am.jB,am.clear,?_⟩;rw[e1];by_cases h2:(W.at_ m).heap.most<(live (W.at_ m):Int)+(l'.length:Int)
  ·rw[if_pos h2] at hR2;rw[if_neg (by omega)];unfold fB;rw[et,if_pos (by rw[hR2];decide)]
  ·rw[if_neg h2] at hR2;rw[if_pos (by omega),fin _ _ dx et hR2,bz,am.mr]
 ·rw[if_neg h1] at hR;have e1:iI W m m r=W:=if_neg (by rw[hR];decide);refine⟨W.at_ m,am.likeA,am,?_⟩;rw[e1,if_pos (by omega),fin _ _ rfl rfl hR]
theorem bH.dL (h:bH W W') (m:Nat) (r:Int) (mv:Bool):bH (Go.Proofs.YtdmocjnjbihloaaDoor.dL W m r mv) (Go.Proofs.YtdmocjnjbihloaaDoor.dL W' m r mv):=by
 unfold Go.Proofs.YtdmocjnjbihloaaDoor.dL;split
 ·exact h.put m (fun hm=>by
   obtain⟨f,S,hk⟩:=h.all m hm;exact⟨f,S,hk.qZ r (by decide)⟩)
 ·exact h
theorem LkA.spoilt (h:LkA f S a b) (ha:bu ps n a) (hb:bu ps n b) (r:Int):Go.Proofs.YtdmocjnjbihloaaDoor.spoilt b.heap (b.reg r)=Go.Proofs.YtdmocjnjbihloaaDoor.spoilt a.heap (a.reg r):=by
 obtain⟨l,k1,k2,_,_,k5⟩:=h.reach ha r;unfold Go.Proofs.YtdmocjnjbihloaaDoor.spoilt;rw[ha.reg1,hb.reg1,k1,k2,h.heap.qK k5]
theorem led_root {os:List Ob} {v:V} {l:List Int} (h:Led os [v] [] l) (hk:v.k=2):v.n∈l:=h.roots v (by simp) hk
theorem bH.send (h:bH W W') (hW:bK ps W) (hW':bK ps W') {m:Nat} (hm:m<W.aa.length) (r tt:Int) (mv:Bool):bH (fq W m r tt mv) (fq W' m r tt mv):=by
 have hm':m<W'.aa.length:=(by rw[h.len];exact hm);obtain⟨f,S,hk⟩:=h.all m hm;unfold fq;refine bH.dL ?_ m r mv;rw[hk.spoilt (hW.at_ hm) (hW'.at_ hm') r,h.open_];split
 ·exact h
 rename_i hsp
 split
 ·exact h
 rename_i hop
 have hop':gV W tt=true:=(by simpa using hop);obtain⟨t0,t1,_⟩:=jR (uq hop').1;have t1':tt.toNat<W'.aa.length:=(by rw[h.len];exact t1);have hd:=(spoilt_no (by simpa using hsp)).2;obtain⟨l,k1,k2,k3,k4,k5⟩:=hk.reach (hW.at_ hm) r;rw[k1] at hd;have hd':(l.map f).any (aV (W'.at_ m).heap.ah)=false:=(by rw[hk.heap.qK k5];exact hd);split
 ·rename_i hs
  have hm2:tt.toNat=m:=(by omega);refine h.put m (fun _=>⟨f,S,?_⟩);have hs:=hk.aK (l:=(W.at_ m).box++[(W.at_ m).reg r]) (fun u hu hk2=>by
   rcases List.mem_append.1 hu with hu|hu
   ·exact hk.roots u (List.mem_append_right _ hu) hk2
   ·simp at hu
    subst hu;exact hk.regS hk2)
  rw[List.map_append,←hk.box,List.map_cons,List.map_nil,←hk.reg] at hs;exact hs
 ·rename_i hself
  by_cases htm:tt.toNat=m
  ·have hmv:mv=false:=by
    cases mv with
    |false=>rfl
    |true=>exact absurd ⟨by omega,rfl⟩ hself
   subst hmv;rw[htm];obtain⟨R,q1,q2,q3⟩:=room_self hW hm r k1 hd;obtain⟨R',q1',q2',q3'⟩:=room_self hW' hm' r k2 hd';rw[q3,q3',hk.live_eq (hW.at_ hm),hk.most,List.length_map];obtain⟨g,T,hg⟩:fI R R':=(q1.symm.trans (h.all m hm)).trans q1';split
   ·obtain⟨l2,j1,j2,j3,j4,j5⟩:=hg.reach q2 r;rw[j1,j2];refine h.put m (fun _=>?_);have:=hg.recv hg.heap j5 (fun x hx v hv hk=>j3.shut x hx v hv hk) (v:=R.reg r) (led_root j3) (W.at_ m).heap.most;rwa[←hg.reg] at this
   ·exact h.put m (fun _=>⟨g,T,hg⟩)
  ·obtain⟨R,q1,q3⟩:=uB hW hm t1 htm r mv k1 hd;obtain⟨R',q1',q3'⟩:=uB hW' hm' t1' htm r mv k2 hd';obtain⟨ft,St',ht⟩:=h.all _ t1;rw[q3,q3',ht.live_eq (hW.at_ t1),ht.most,List.length_map];obtain⟨g,T,hg⟩:fI R R':=(q1.symm.trans (h.all _ t1)).trans q1';split
   ·refine bH.put (h.put m (fun _=>?_)) _ (fun _=>?_)
    ·rw[hk.most];have hmvd:iB f S (bN (W.at_ m).heap.ah (if mv then l else [])) (bN (W'.at_ m).heap.ah (if mv then l.map f else [])):=by
      cases mv with
      |false=>exact hk.heap.moved (l:=[]) (fun x hx=>by cases hx)
      |true=>exact hk.heap.moved k5
     exact⟨f,S,hk.af hmvd⟩
    ·have:=hg.recv hk.heap k5 (fun x hx v hv hk=>k3.shut x hx v hv hk) (v:=(W.at_ m).reg r) (led_root k3) (W.at_ tt.toNat).heap.most;rw[←hk.reg] at this;simp only[List.length_map] at this;exact this
   ·exact h.put _ (fun _=>⟨g,T,hg⟩)
theorem bH.more (h:bH W W') (hx:fI a b):bH ⟨W.aa++[a],W.prints⟩ ⟨W'.aa++[b],W'.prints⟩:=by
 refine⟨h.told,by simp[h.len],fun j hj=>?_⟩;simp only[List.length_append,List.length_singleton] at hj;by_cases hlt:j<W.aa.length
 ·rw[pR (W:=W) rfl hlt,pR (W:=W') rfl (by rw[h.len];exact hlt)];exact h.all j hlt
 ·have e:j=W.aa.length:=(by omega);subst e;have e1:(⟨W.aa++[a],W.prints⟩:Wd).at_ W.aa.length=a:=(by simp[Wd.at_,List.getD]);have e2:(⟨W'.aa++[b],W'.prints⟩:Wd).at_ W.aa.length=b:=(by rw[←h.len];simp[Wd.at_,List.getD]);rw[e1,e2];exact hx
theorem LkA.transN (h:LkA f S a b) (ha:bu ps n a) (hb:bu ps n b) (r:Int):dU b.heap (b.reg r) ⟨b.heap.most,[]⟩=dU a.heap (a.reg r) ⟨a.heap.most,[]⟩:=by
 obtain⟨l,k1,k2,_,_,k5⟩:=h.reach ha r;unfold dU dh;rw[k1,k2,ha.reg1,hb.reg1,bare_ok ha.hp,bare_ok hb.hp,h.heap.qK k5,List.length_map,h.most]
theorem bH.eD (h:bH W W') (hW:bK ps W) (hW':bK ps W') {m:Nat} (hm:m<W.aa.length) (i:Ins):Go.Proofs.YtdmocjnjbihloaaDoor.eD W' m i=Go.Proofs.YtdmocjnjbihloaaDoor.eD W m i:=by
 obtain⟨f,S,hk⟩:=h.all m hm;unfold Go.Proofs.YtdmocjnjbihloaaDoor.eD;rw[h.len,hk.transN (hW.at_ hm) (hW'.at_ (by rw[h.len];exact hm))]
theorem bH.spawn (h:bH W W') (hW:bK ps W) (hW':bK ps W') {m:Nat} (hm:m<W.aa.length) (i:Ins):bH (eG W m i) (eG W' m i):=by
 have hm':m<W'.aa.length:=(by rw[h.len];exact hm);obtain⟨f,S,hk⟩:=h.all m hm;unfold eG;rw[h.eD hW hW' hm];split
 ·exact h
 rename_i he
 simp only[Decidable.not_not] at he;unfold Go.Proofs.YtdmocjnjbihloaaDoor.eD at he;split at he
 ·cases he
 split at he
 ·cases he
 rename_i htr
 simp only[Decidable.not_not] at htr;have htr':=(hk.transN (hW.at_ hm) (hW'.at_ hm') i.b).trans htr;obtain⟨l,k1,k2,k3,k4,k5⟩:=hk.reach (hW.at_ hm) i.b;obtain⟨t1,t2,t3⟩:=oM k1 htr;obtain⟨s1,s2,s3⟩:=oM k2 htr';rw[t1,t2,t3,s1,s2,s3,h.len,hk.most];have hmvd:iB f S (bN (W.at_ m).heap.ah l) (bN (W'.at_ m).heap.ah (l.map f)):=hk.heap.moved k5;have h0:iB f (fun _=>False) [] []:=⟨fun _ _ h=>h.elim,fun _ h=>h.elim,fun _ h=>h.elim,fun _ h=>h.elim,fun _ h=>h.elim,fun _ h=>h.elim⟩;obtain⟨p1,p2⟩:=hk.heap.part h0 k5 (fun x hx v hv hk=>k3.shut x hx v hv hk);obtain⟨q1,q2⟩:=p2 ((W.at_ m).reg i.b) (led_root k3);refine bH.more (h.put m (fun _=>⟨f,S,((hk.af (m:=(W.at_ m).heap.most) hmvd).qZ i.b (v:=aQ) (by decide)).qZ i.a (v:=⟨1,W.aa.length⟩) (by show(1:Int)≠2;decide)⟩)) ?_;have hnil:∀F:Int→Int,(List.replicate 7 aQ).map (aI F)=List.replicate 7 aQ:=fun F=>by rw[List.map_replicate];rfl
 refine⟨_,_,p1,fun v hv hk'=>?_,?_,rfl,rfl,rfl,rfl,rfl,rfl⟩
 ·simp only[aC,dS,List.append_nil] at hv;rcases List.mem_cons.1 hv with rfl|hv
  ·rw[fK] at hk';exact .inr (q2 hk')
  ·rw[jd 7 v hv] at hk';cases hk'
 ·show aI (plM 0 (l.map f)) ((W'.at_ m).reg i.b)::_=(aI (plM 0 l) ((W.at_ m).reg i.b)::_).map _
  rw[List.map_cons,hnil,hk.reg];exact congrArg (· ::List.replicate 7 aQ) q1
theorem bH.fu (h:bH W W') (hW:bK ps W) (hW':bK ps W') {m:Nat} (hm:m<W.aa.length) (i:Ins):Go.Proofs.YtdmocjnjbihloaaDoor.fu W' m i=Go.Proofs.YtdmocjnjbihloaaDoor.fu W m i:=by
 have hm':m<W'.aa.length:=(by rw[h.len];exact hm);obtain⟨f,S,hk⟩:=h.all m hm;unfold Go.Proofs.YtdmocjnjbihloaaDoor.fu;rw[hk.regK,hk.regK,h.eD hW hW' hm,hk.spoilt (hW.at_ hm) (hW'.at_ hm')]
theorem bH.told_more (h:bH W W') (t:Td):bH ⟨W.aa,W.prints++[t]⟩ ⟨W'.aa,W'.prints++[t]⟩:=⟨by show W'.prints++[t]=W.prints++[t];rw[h.told],h.len,h.all⟩
theorem bH.oK (h:bH W W') (hW:bK ps W) (hW':bK ps W') {m:Nat} (hm:m<W.aa.length) (i:Ins):bH (bU W m i) (bU W' m i):=by
 obtain⟨f,S,hk⟩:=h.all m hm;unfold bU;rw[hk.regK,hk.regK,h.told];split
 ·split
  ·rename_i hp
   rw[hk.regN i.a (by rw[hp.1];decide)];have:=h.told_more ⟨m,((W.at_ m).reg i.a).n⟩;rwa[h.told] at this
  ·exact h
 ·split
  ·split
   ·exact h
   ·exact h.spawn hW hW' hm i
  ·split
   ·exact h
   ·rename_i hp
    rw[hk.regN i.b (by omega)];exact h.send hW hW' hm _ _ _
theorem bH.kF (h:bH W W') (hW:bK ps W) (hW':bK ps W') {m:Nat} (hm:m<W.aa.length) (i:Ins):Go.Proofs.YtdmocjnjbihloaaDoor.kF W' m i=Go.Proofs.YtdmocjnjbihloaaDoor.kF W m i:=by
 obtain⟨f,S,hk⟩:=h.all m hm;unfold Go.Proofs.YtdmocjnjbihloaaDoor.kF;rw[h.fu hW hW' hm,hk.fA (hW.at_ hm) (hW'.at_ (by rw[h.len];exact hm))]
theorem five_int (he:kF W n.toNat i=0) (h5:i.op=5):((W.at_ n.toNat).reg i.a).k=1:=by
 unfold kF at he;rw[if_neg (by rw[h5];decide)] at he;unfold fA at he;rw[if_neg (by omega),if_neg (by omega),if_pos h5] at he;split at he
 ·assumption
 ·cases he
theorem bH.did (h:bH W W') (hW:bK ps W) (hW':bK ps W') {m:Nat} (hm:m<W.aa.length) (i:Ins) (he:Go.Proofs.YtdmocjnjbihloaaDoor.kF W m i=0):bH (didW W m i) (didW W' m i):=by
 have hm':m<W'.aa.length:=(by rw[h.len];exact hm);obtain⟨f,S,hk⟩:=h.all m hm;have hn:=hk.next (i:=i) (fun h5=>five_int (n:=m) he h5);unfold didW;rw[hn];split
 ·have ha:=h.oK hW hW' hm i;exact ha.put m (fun hl=>by
   obtain⟨g,T,hg⟩:=ha.all m hl;exact⟨g,T,hg.aG _⟩)
 ·rename_i hb
  have hs:Go.Proofs.YtdmocjnjbihloaaDoor.fA (W.at_ m) i=0:=by
   unfold Go.Proofs.YtdmocjnjbihloaaDoor.kF at he;rwa[if_neg hb] at he
  exact h.put m (fun _=>by
   obtain⟨g,T,hg⟩:=hk.self (hW.at_ hm) (hW'.at_ hm') m hs;exact⟨g,T,hg.aG _⟩)
theorem fI.given (h:fI a b) (ha:bu ps n a) (hb:bu ps n b) (k:Int):fI (aL a k) (aL b k):=by
 by_cases he:bL a k=0
 ·obtain⟨f,S,h⟩:=h;obtain⟨g,T,q,_⟩:=h.given ha hb k he;exact⟨g,T,q⟩
 ·obtain⟨f,S,h'⟩:=h;have he':¬bL b k=0:=fun e=>he ((h'.kz ha hb k).1 e);unfold aL;rw[if_neg he,if_neg he'];exact((ha.jX k).symm.trans ⟨f,S,h'⟩).trans (hb.jX k)
theorem bH.left (h:bH W W') (hW:bK ps W) (hW':bK ps W') {m:Nat} (hm:m<W.aa.length) (i:Ins):bH (kU W m i) (kU W' m i):=by
 unfold kU;split
 ·exact h.oK hW hW' hm i
 ·split
  ·exact h.put m (fun _=>(h.all m hm).given (hW.at_ hm) (hW'.at_ (by rw[h.len];exact hm)) i.n)
  ·exact h
theorem bH.step (h:bH W W') (hW:bK ps W) (hW':bK ps W') (hf:bT ps=0) {m:Nat} (hm:m<W.aa.length):bH (stepW ps W m) (stepW ps W' m):=by
 have hm':m<W'.aa.length:=(by rw[h.len];exact hm);have a1:=hW.at_ hm;have a2:=hW'.at_ hm';obtain⟨f,S,hk⟩:=h.all m hm;unfold stepW;rw[hk.fin,hk.pc,hk.kind];split
 ·exact h
 rename_i hfin
 have h1:(W.at_ m).fin=0:=(by omega);split
 ·rename_i h0
  have hkd:(W.at_ m).kind.toNat<ps.length:=(by have:=a1.pV;have:=a1.pW;omega);have hl:ps.getD (W.at_ m).kind.toNat []=ps[(W.at_ m).kind.toNat]:=getD_some (zD hkd);have hpc:=a1.pc1;obtain⟨k,hk'⟩:=Int.eq_ofNat_of_zero_le h0;have hkl:k<(ps.getD (W.at_ m).kind.toNat []).length:=(by omega);have hx:(ps.getD (W.at_ m).kind.toNat [])[k]?=some ((ps.getD (W.at_ m).kind.toNat []).getD k ⟨0,0,0,0⟩):=by
   generalize ps.getD (W.at_ m).kind.toNat []=c at hkl;rw[zD hkl,getD_some (zD hkl)]
  have hi:=qW hf (by rw[hl];exact List.getElem_mem hkd) hx;have e1:(W.at_ m).pc.toNat=k:=(by omega);rw[e1];generalize (ps.getD (W.at_ m).kind.toNat []).getD k ⟨0,0,0,0⟩=x at hi;rw[h.kF hW hW' hm];split
  ·rename_i he
   exact h.did hW hW' hm x he
  ·obtain⟨w1,w2⟩:=hW.left hm h1 hi;obtain⟨w1',_⟩:=hW'.left hm' (hk.fin.trans h1) hi;have:=qL W m x;exact(h.left hW hW' hm x).end_ w1 w1' (Nat.lt_of_lt_of_le hm w2) this.1 this.2
 ·rw[hk.box]
  cases hb:(W.at_ m).box with
  |nil=>exact h
  |cons v l=>
   have hin:∀u∈v::l,u.k=2→S u.n:=fun u hu hk2=>hk.roots u (List.mem_append_right _ (by rw[hb];exact hu)) hk2;exact h.put m (fun _=>⟨f,S,((hk.ai 1 (v:=v) (hin v (by simp))).aK (l:=l) (fun u hu=>hin u (by simp[hu]))).aG 0⟩)
theorem bH.act (h:bH W W') (hW:bK ps W) (hW':bK ps W') (hf:bT ps=0) {d:ig} (hd:cO d=0):bH (iY ps W d) (iY ps W' d):=by
 unfold cO at hd;split at hd
 ·cases hd
 rename_i hk
 split at hd
 ·cases hd
 rename_i hr
 unfold iY;rw[h.len];split
 ·exact h
 ·rename_i hl
  split
  ·exact h.step hW hW' hf (by omega)
  ·split
   ·exact h.put _ (fun hm=>((hW.at_ hm).jB.symm.trans (h.all _ hm)).trans (hW'.at_ (by rw[h.len];exact hm)).jB)
   ·exact h.tell hW hW' _ (by simp[aY];omega) (by simp[aY];omega)
theorem bH.act_clear (h:bH W W') (hW':bK ps W') {d:ig} (hk:d.kind=2):bH W (iY ps W' d):=by
 unfold iY;split
 ·exact h
 ·rw[if_neg (by omega)];first|exact h.clear hW' _|(rw[if_pos hk];exact h.clear hW' _)
def bareL (l:List ig):List ig:=l.filter (fun d=>d.kind !=2)
theorem pU (hf:bT ps=0):∀(l:List ig) (W W':Wd),bH W W'→bK ps W→bK ps W'→(∀d∈l,cO d=0)→bH (l.foldl (iY ps) W) ((bareL l).foldl (iY ps) W')
 | [],_,_,h,_,_,_=>h
 |d::l,W,W',h,hW,hW',hd=>by
  have h1:=hW.act hf (hd d (by simp));by_cases hk:d.kind=2
  ·have e:bareL (d::l)=bareL l:=(by simp[bareL,hk]);rw[e];exact pU hf l _ _ (h.symm.act_clear hW hk).symm h1 hW' (fun x hx=>hd x (by simp[hx]))
  ·have e:bareL (d::l)=d::bareL l:=(by simp[bareL,hk]);rw[e];exact pU hf l _ _ (h.act hW hW' hf (hd d (by simp))) h1 (hW'.act hf (hd d (by simp))) (fun x hx=>hd x (by simp[hx]))
theorem bH.ok (hW:bK ps W):bH W W:=hW.like
theorem like_run (hf:bT ps=0) {most:Int} (hm:2≤most∧most≤60) {l l':List ig} (he:bareL l=bareL l') (hl:∀d∈l,cO d=0) (hl':∀d∈l',cO d=0):bH (l.foldl (iY ps) (fZ most)) (l'.foldl (iY ps) (fZ most)):=by
 have h0:=bK.new hf hm;have h1:=pU hf l _ _ h0.like h0 h0 hl;have h2:=pU hf l' _ _ h0.like h0 h0 hl';rw[he] at h1;exact h1.trans h2.symm
theorem LkA.form (h:LkA f S a b) (ha:bu ps n a):lu b.heap.ah (aC b)=lu a.heap.ah (aC a):=by
 obtain⟨l,hl,ht⟩:=kX.led ha.heap;have hS:=hl.inS h.heap.shut h.roots (fun x hx=>by cases hx);rw[h.rootsE];exact(q9 (f:=f) hl (fun x hx y hy e=>h.heap.inj x y (hS x hx) (hS y hy) e) (fun x hx=>h.heap.fields x (hS x hx))).2
end
end
end Go.Proofs.YtdmocjnjbihloaaDoor
