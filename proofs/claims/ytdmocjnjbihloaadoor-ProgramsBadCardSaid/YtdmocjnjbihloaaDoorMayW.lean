/- Plain laws of a heap that may be and whose objects are all alive; references to all its objects, and how a row holds them. No condition. Heaps stay heaps that may be, whatever is done to them, in plain Lean. No condition; no run. Worlds stay worlds that may be, whatever act is done, in plain Lean. No condition; no run. -/
import Derived.Test.YtdmocjnjbihloaaDoorActCopy
import Derived.Test.YtdmocjnjbihloaaDoorAlloc
import Derived.Test.YtdmocjnjbihloaaDoorSet
import Derived.Test.YtdmocjnjbihloaaDoorReach
import Derived.Test.YtdmocjnjbihloaaDoorActK
namespace Go.Proofs.YtdmocjnjbihloaaDoor
section
open Go.RowKit
def oz (n:Nat):List V:=(List.range n).map fun (i:Nat)=>⟨2,(i:Int)⟩
def rc (n:Nat):List (List Value):=(List.range n).map fun (i:Nat)=>[.int .i64 2,.int .i64 (i:Int)]
theorem refsTo_len (n:Nat):(oz n).length=n:=by simp[oz]
theorem rc_len (n:Nat):(rc n).length=n:=by simp[rc]
theorem rc_succ (n:Nat):(rc (n+1)).flatten=(rc n).flatten++[.int .i64 2,.int .i64 (n:Int)]:=by simp[rc,List.range_succ]
theorem refsTo_at {n i:Nat} (h:i<n):(oz n)[i]?=some ⟨2,(i:Int)⟩:=by simp[oz,h]
theorem own_refs {w:World} {base n:Nat} {B:Option Addr} {d:Nat} (h:w.ownsRow base 47 2 (.slice B n d) n (rc n).flatten) (hn:n*16≤140737488355328):dQ vE w (fun _=>False) base 47 (.slice B n d) (oz n):=
 ⟨rc n,⟨by rw[rc_len,refsTo_len],fun i x cs hx hc=>by
  have hi:i<n:=(by have:=(zE.1 hx).1;rwa[refsTo_len] at this);rw[refsTo_at hi] at hx;simp[rc,hi] at hc hx
  subst hx hc;exact⟨rfl,rfl⟩⟩,by rw[refsTo_len];exact h,by rw[refsTo_len];exact hn⟩
structure ll (m:Int) (os:List Ob):Prop where
 may:hpB ⟨m,os⟩ []=true
 alive:∀o∈os,o.dead=false
theorem pq {n n':Nat} (h:n≤n') {v:V} (hv:fU n v=true):fU n' v=true:=by
 unfold fU at*;rcases (by omega:v.k=0∨v.k=1∨v.k=2∨(v.k≠0∧v.k≠1∧v.k≠2)) with hk|hk|hk|⟨hk,hk1,hk2⟩<;>simp_all
 omega
theorem ll.nil {m:Int} (h:0≤m∧m≤60):ll m []:=⟨by simp[hpB,limB,h.1,h.2],by simp⟩
theorem ll.lim {m:Int} {os:List Ob} (h:ll m os):(os.length:Int)≤m∧m≤60:=by
 have:=h.may;simp[hpB,limB] at this
 exact⟨this.1.2,this.1.1.2⟩
theorem ll.more {m:Int} {os:List Ob} (h:ll m os) {f:Int} (he:bV ⟨m,os⟩ f=0):ll m (os++[di f.toNat]):=by
 have hm:=h.may;unfold bV at he;rw[if_neg (by simp[hm])] at he;split at he
 ·cases he
 split at he
 ·cases he
 rename_i hf hl
 have hl':(os.length:Int)≠m:=hl;simp[hpB,limB] at hm
 obtain⟨⟨⟨h1,h2⟩,h3⟩,h4⟩:=hm;have hz:obB (os.length+1) (di f.toNat)=true:=by
  simp[obB,di,fU]
  omega
 have ho:∀o∈os,obB (os.length+1) o=true:=fun o ho=>by
  have:=h4 o ho;simp[obB] at this ⊢
  exact⟨⟨this.1.1,fun x hx=>pq (by omega) (this.1.2 x hx)⟩,this.2⟩
 constructor
 ·simp[hpB,limB]
  refine⟨⟨⟨h1,h2⟩,by omega⟩,ho,hz⟩
 ·intro o ho;rcases List.mem_append.1 ho with ho|ho
  ·exact h.alive o ho
  ·simp at ho;subst ho;rfl
theorem ll.set {m:Int} {os:List Ob} (h:ll m os) {v x:V} {f:Int} (he:gz ⟨m,os⟩ v f x=0):ll m (eY os v.n.toNat f.toNat x):=by
 unfold gz at he;split at he
 ·cases he
 rename_i hb
 have hm:=h.may;simp[hpB,limB] at hm hb ⊢
 obtain⟨⟨⟨h1,h2⟩,h3⟩,h4⟩:=hm;have hx:fU os.length x=true:=hb.2.2.2.2.2;have hall:∀o∈eY os v.n.toNat f.toNat x,obB os.length o=true∧o.dead=false:=by
  intro o ho;obtain⟨i,hi⟩:=List.getElem?_of_mem ho;rw[iU] at hi;split at hi
  ·cases hq:os[i]? with
   |none=>rw[hq] at hi;cases hi
   |some p=>
    rw[hq] at hi;simp at hi
    subst hi;have hp:=zF hq;have hpo:=h4 p hp;have hd:=h.alive p hp;refine⟨?_,hd⟩;simp[obB] at hpo ⊢
    refine⟨⟨hpo.1.1,fun y hy=>?_⟩,hpo.2⟩;rcases List.mem_or_eq_of_mem_set hy with hy|rfl
    ·exact hpo.1.2 y hy
    ·exact hx
  ·have ho:=zF hi;exact⟨h4 o ho,h.alive o ho⟩
 refine⟨?_,fun o ho=>(hall o ho).2⟩;simp[hpB,limB,fV]
 exact⟨⟨⟨h1,h2⟩,h3⟩,fun o ho=>(hall o ho).1⟩
end
section
open Go.RowKit
structure kX (h:Hp):Prop where
 low:0≤h.most
 high:h.most≤60
 fits:(h.ah.length:Int)≤h.most
 ah:∀o∈h.ah,obB h.ah.length o=true
theorem aR {h:Hp} {rs:List V}:hpB h rs=true↔kX h∧∀v∈rs,fU h.ah.length v=true:=by
 simp only[hpB,limB,Bool.and_eq_true,decide_eq_true_eq,List.all_eq_true];exact⟨fun⟨⟨⟨⟨h1,h2⟩,h3⟩,h4⟩,h5⟩=>⟨⟨h1,h2,h3,h4⟩,h5⟩,fun⟨⟨h1,h2,h3,h4⟩,h5⟩=>⟨⟨⟨⟨h1,h2⟩,h3⟩,h4⟩,h5⟩⟩
theorem kX.few {h:Hp} (a:kX h):h.ah.length≤60:=by have:=a.high;have:=a.fits;omega
theorem kX.bare {h:Hp} (a:kX h):hpB h []=true:=aR.2 ⟨a,fun _ h=>by cases h⟩
theorem iX {n:Nat} {o:Ob}:obB n o=true↔o.fields.length≤4∧(∀v∈o.fields,fU n v=true)∧(o.dead=true↔o.fields= []):=by
 have hd:(o.dead !=decide (0<o.fields.length))=true↔(o.dead=true↔o.fields= []):=by
  cases o.dead<;>cases ho:o.fields<;>simp
 simp only[obB,Bool.and_eq_true,decide_eq_true_eq,List.all_eq_true,hd,and_assoc]
theorem fieldsOf_mem {os:List Ob} {n:Int} (h:fieldsOf os n≠[]):∃o∈os,os[n.toNat]?=some o∧fieldsOf os n=o.fields:=by
 unfold fieldsOf at h ⊢
 cases hx:os[n.toNat]? with
 |none=>rw[hx] at h;exact absurd rfl h
 |some o=>exact⟨o,zF hx,rfl,rfl⟩
theorem gN {os:List Ob} {n:Nat} {o:Ob} (h:os[n]?=some o):fieldsOf os (n:Int)=o.fields:=by
 unfold fieldsOf;rw[Int.toNat_natCast,h]
theorem mU {os:List Ob} {n:Nat} {o:Ob} (h:os[n]?=some o):aV os (n:Int)=o.dead:=by
 unfold aV;rw[Int.toNat_natCast,h]
theorem kX.field {h:Hp} (a:kX h) {n:Int} {v:V} (hv:v∈fieldsOf h.ah n):fU h.ah.length v=true:=by
 obtain⟨o,ho,_,e⟩:=fieldsOf_mem (List.ne_nil_of_mem hv);rw[e] at hv;exact(iX.1 (a.ah o ho)).2.1 v hv
theorem kX.led {h:Hp} {rs:List V} (hp:hpB h rs=true):∃l,Led h.ah rs [] l∧Told h.ah.length l:=by
 have hok:=mF (m:=h.most) (os:=h.ah) hp;exact led_ex hok.fields h.ah.length rs [] .nil hok.roots (by simp)
theorem rW {n:Nat} {v:V} (h:fU n v=true) (hk:v.k=2):0≤v.n∧v.n<n:=by
 unfold fU at h;simp[hk] at h
 exact h
theorem pK {n m:Nat} {f:Int→Int} {v:V} (h:fU n v=true) (hf:v.k=2→0≤f v.n∧f v.n<m):fU m (aI f v)=true:=by
 unfold aI;by_cases hk:v.k=2
 ·have:=hf hk;rw[if_pos hk];simp[fU,this.1,this.2]
 ·rw[if_neg hk];unfold fU at h ⊢;by_cases h0:v.k=0
  ·simpa[h0] using h
  ·by_cases h1:v.k=1
   ·simpa[h1] using h
   ·simp[h0,h1,hk] at h
theorem oW {n:Nat} {l:List Int} {x:Int} (h:x∈l):(n:Int)≤plM n l x∧plM n l x<(n+l.length:Nat):=by
 unfold plM;rw[if_pos h];have:=List.idxOf_lt_length_of_mem h;omega
theorem qA {n:Nat} {l:List Int} (h:Told n l):(dF n l).length=l.length:=by
 have:=sort_keep h;rw[←this,List.length_mergeSort]
theorem coll_ok {h:Hp} {rs:List V} (hp:hpB h rs=true) {l:List Int} (hl:Led h.ah rs [] l) (ht:Told h.ah.length l):hpB (gU h rs l) (eT h rs l)=true:=by
 obtain⟨a,hr⟩:=aR.1 hp;have hK:(dF h.ah.length l).length=l.length:=qA ht;have hlen:=ht.len;have hin:∀x,x∈l→x∈dF h.ah.length l:=fun x hx=>iC.2 ⟨hx,ht.within x hx⟩;unfold gU eT;rw[if_neg (by simp[hp]),if_neg (by simp[hp])];refine aR.2 ⟨⟨a.low,a.high,?_,fun o ho=>?_⟩,fun v hv=>?_⟩
 ·have:=a.fits;simp
  omega
 ·obtain⟨x,hx,rfl⟩:=List.mem_map.1 ho;have hx':=iC.1 hx;simp only[List.length_map];obtain⟨n,rfl⟩:=Int.eq_ofNat_of_zero_le hx'.2.1;have hn:n<h.ah.length:=(by omega);have hg:h.ah[n]?=some h.ah[n]:=zD hn;have hob:=iX.1 (a.ah _ (List.getElem_mem hn));refine iX.2 ?_;simp only[iq,gN hg,mU hg,List.length_map,List.mem_map,List.map_eq_nil_iff];refine⟨hob.1,?_,hob.2.2⟩;rintro v ⟨u,hu,rfl⟩;refine pK (hob.2.1 u hu) (fun hk=>?_);have hm:=hl.shut n hx'.1 u (by rw[gN hg];exact hu) hk;have:=oW (n:=0) (hin _ hm);omega
 ·obtain⟨u,hu,rfl⟩:=List.mem_map.1 hv;simp only[List.length_map];refine pK (hr u hu) (fun hk=>?_);have:=oW (n:=0) (hin _ (hl.roots u hu hk));omega
theorem rU {h:Hp} {rs:List V} (hp:hpB h rs=true) (l:List Int):(eT h rs l).length=rs.length:=by
 unfold eT;rw[if_neg (by simp[hp]),List.length_map]
theorem obB_mono {n n':Nat} (h:n≤n') {o:Ob} (ho:obB n o=true):obB n' o=true:=by
 obtain⟨h1,h2,h3⟩:=iX.1 ho;exact iX.2 ⟨h1,fun v hv=>pq h (h2 v hv),h3⟩
theorem jE {h:Hp} {rs:List V} {f:Int} (hp:hpB h rs=true) (he:bV h f=0):hpB (bX h f) (rs++[bP h f])=true∧1≤f∧f≤4∧bX h f=⟨h.most,h.ah++[di f.toNat]⟩∧bP h f=⟨2,h.ah.length⟩:=by
 obtain⟨a,hr⟩:=aR.1 hp;have e1:bX h f=⟨h.most,h.ah++[di f.toNat]⟩:=if_pos he;have e2:bP h f=⟨2,h.ah.length⟩:=if_pos he;have hf:(1≤f∧f≤4)∧(h.ah.length:Int)≠h.most:=by
  unfold bV at he;split at he
  ·cases he
  split at he
  ·cases he
  split at he
  ·cases he
  exact⟨by omega,by assumption⟩
 refine⟨?_,hf.1.1,hf.1.2,e1,e2⟩;rw[e1,e2];refine aR.2 ⟨⟨a.low,a.high,?_,fun o ho=>?_⟩,fun v hv=>?_⟩
 ·have:=a.fits;simp
  omega
 ·simp only[List.length_append,List.length_singleton];rcases List.mem_append.1 ho with ho|ho
  ·exact obB_mono (by omega) (a.ah o ho)
  ·simp at ho
   subst ho;refine iX.2 ⟨by simp[di];omega,fun v hv=>?_,?_⟩
   ·simp[di] at hv
    rw[hv.2];rfl
   ·simp[di]
    omega
 ·simp only[List.length_append,List.length_singleton];rcases List.mem_append.1 hv with hv|hv
  ·exact pq (by omega) (hr v hv)
  ·simp at hv
   subst hv;simp[fU]
   omega
theorem objectE_zero {os:List Ob} {v:V} {f:Int} (hv:fU os.length v=true) (he:bJ os v f=0):∃(n:Nat) (o:Ob) (j:Nat),v=⟨2,n⟩∧os[n]?=some o∧o.dead=false∧f=j∧j<o.fields.length:=by
 unfold bJ at he;by_cases hk:v.k=2
 ·have hin:=rW hv hk;obtain⟨k,m⟩:=v;dsimp only at hk hin he;subst hk;obtain⟨n,rfl⟩:=Int.eq_ofNat_of_zero_le hin.1;have hn:n<os.length:=(by omega);have hg:os[n]?=some os[n]:=zD hn;simp[hg] at he
  cases hd:os[n].dead
  ·simp[hd] at he
   obtain⟨j,rfl⟩:=Int.eq_ofNat_of_zero_le he.1;exact⟨n,os[n],j,rfl,hg,hd,rfl,by omega⟩
  ·simp[hd] at he
 ·simp[hk] at he
theorem oD {h:Hp} {rs:List V} {v x:V} {f:Int} (hp:hpB h rs=true) (he:gz h v f x=0):hpB (setH h v f x) rs=true∧setH h v f x=⟨h.most,eY h.ah v.n.toNat f.toNat x⟩:=by
 obtain⟨a,hr⟩:=aR.1 hp;have e1:setH h v f x=⟨h.most,eY h.ah v.n.toNat f.toNat x⟩:=if_pos he;refine⟨?_,e1⟩;rw[e1];have hvx:hpB h [v,x]=true:=by
  unfold gz at he;split at he
  ·cases he
  ·rename_i hb;simpa using hb
 have hx:=(aR.1 hvx).2 x (by simp);refine aR.2 ⟨⟨a.low,a.high,by simpa[fV] using a.fits,fun o ho=>?_⟩,fun u hu=>by rw[fV];exact hr u hu⟩;simp only[fV];obtain⟨i,hi⟩:=List.getElem?_of_mem ho;rw[iU] at hi;split at hi
 ·cases hg:h.ah[i]? with
  |none=>rw[hg] at hi;cases hi
  |some p=>
   rw[hg] at hi;injection hi with hi
   subst hi;obtain⟨h1,h2,h3⟩:=iX.1 (a.ah p (zF hg));refine iX.2 ⟨by simpa using h1,fun u hu=>?_,?_⟩
   ·rcases List.mem_or_eq_of_mem_set hu with h'|rfl
    ·exact h2 u h'
    ·exact hx
   ·rw[h3];simp[List.set_eq_nil_iff]
 ·exact a.ah o (zF hi)
theorem trans_ok {fr tt:Hp} {rs ts:List V} {v:V} {l:List Int} {move:Bool} (hp:hpB fr rs=true) (hq:hpB tt ts=true) (hl:Led fr.ah [v] [] l) (ht:Told fr.ah.length l) (he:dh fr v tt l=0):
  hpB (bC fr v tt l move) rs=true∧hpB (dA fr v tt l) (ts++[dX fr v tt l])=true:=by
 obtain⟨a,hr⟩:=aR.1 hp;obtain⟨b,hs⟩:=aR.1 hq;have e1:bC fr v tt l move=⟨fr.most,bN fr.ah (if move then l else [])⟩:=if_pos he;have e2:dA fr v tt l=⟨tt.most,gW fr.ah tt.ah l l.length⟩:=if_pos he;have e3:dX fr v tt l=aI (plM tt.ah.length l) v:=if_pos he;have hfit:hpB fr [v]=true∧(tt.ah.length:Int)+l.length≤tt.most:=by
  unfold dh at he;split at he
  ·cases he
  rename_i h1
  split at he
  ·cases he
  split at he
  ·cases he
  split at he
  ·cases he
  exact⟨by simpa using h1,by omega⟩
 have hv:=(aR.1 hfit.1).2 v (by simp);rw[e1,e2,e3];refine⟨aR.2 ⟨⟨a.low,a.high,by simpa[gL] using a.fits,fun o ho=>?_⟩,fun u hu=>by simp only[gL];exact hr u hu⟩,?_⟩
 ·simp only[gL];obtain⟨i,hi⟩:=List.getElem?_of_mem ho;simp only[bN,List.getElem?_mapIdx] at hi
  cases hg:fr.ah[i]? with
  |none=>rw[hg] at hi;cases hi
  |some p=>
   rw[hg] at hi;injection hi with hi
   subst hi;show obB fr.ah.length (if(i:Int)∈(if move=true then l else []) then ⟨[],true⟩ else p)=true
   by_cases hm:(i:Int)∈(if move=true then l else [])
   ·rw[if_pos hm];rfl
   ·rw[if_neg hm];exact a.ah p (zF hg)
 ·rw[nE];refine aR.2 ⟨⟨b.low,b.high,by simpa using hfit.2,fun o ho=>?_⟩,fun u hu=>?_⟩
  ·simp only[List.length_append,List.length_map];rcases List.mem_append.1 ho with ho|ho
   ·exact obB_mono (by omega) (b.ah o ho)
   ·obtain⟨x,hx,rfl⟩:=List.mem_map.1 ho;have hx':=ht.within x hx;obtain⟨n,rfl⟩:=Int.eq_ofNat_of_zero_le hx'.1;have hn:n<fr.ah.length:=(by omega);have hg:fr.ah[n]?=some fr.ah[n]:=zD hn;obtain⟨h1,h2,h3⟩:=iX.1 (a.ah _ (List.getElem_mem hn));have hd:(fr.ah[n]).dead=false:=by
     have hany:l.any (aV fr.ah)=false:=by
      unfold dh at he;split at he
      ·cases he
      split at he
      ·cases he
      split at he
      ·cases he
      rename_i h3
      simpa using h3
     have:=List.any_eq_false.1 hany _ hx;rw[mU hg] at this;simpa using this
    refine iX.2 ?_;simp only[gN hg,List.length_map,List.mem_map,List.map_eq_nil_iff];refine⟨h1,?_,?_⟩
    ·rintro u ⟨y,hy,rfl⟩;refine pK (h2 y hy) (fun hk=>?_);have hm:=hl.shut n hx y (by rw[gN hg];exact hy) hk;have:=oW (n:=tt.ah.length) hm;omega
    ·rw[←h3,hd]
  ·simp only[List.length_append,List.length_map];rcases List.mem_append.1 hu with hu|hu
   ·exact pq (by omega) (hs u hu)
   ·simp at hu
    subst hu;refine pK hv (fun hk=>?_);have:=oW (n:=tt.ah.length) (hl.roots v (by simp) hk);omega
end
section
open Go.RowKit
structure bu (ps:List (List Ins)) (n:Int) (a:Ac):Prop where
 pV:0≤a.kind
 pW:a.kind<ps.length
 par0: -1≤a.parent
 par1:a.parent<n
 fin0:0≤a.fin
 fin1:a.fin≤8
 regs:a.regs.length=8
 box:a.box.length≤6
 heap:hpB a.heap (a.regs++a.box)=true
 pc0: -1≤a.pc
 pc1:a.pc<((ps.getD a.kind.toNat []).length:Int)
 refs:∀v∈a.box,v.k=2
 gone:a.fin=0∨(a.box= []∧a.heap.ah= []∧a.pc= -1)
theorem acB_iff {ps:List (List Ins)} {n:Int} {a:Ac}:acB ps n a=true↔bu ps n a:=by
 have hg:(a.fin==0||(decide (a.box.length=0)&&decide (a.heap.ah.length=0)&&a.pc== -1))=true↔(a.fin=0∨(a.box= []∧a.heap.ah= []∧a.pc= -1)):=by
  simp[and_assoc]
 have hb:(a.box.all (fun v=>v.k==2))=true↔∀v∈a.box,v.k=2:=(by simp);unfold acB;rw[Bool.and_eq_true,Bool.and_eq_true,hg,hb];simp only[Bool.and_eq_true,decide_eq_true_eq,aC,and_assoc];exact⟨fun⟨h1,h2,h3,h4,h5,h6,h7,h8,h9,h10,h11,h12,h13⟩=>⟨h1,h2,h3,h4,h5,h6,h7,h8,h9,h10,h11,h12,h13⟩,
  fun⟨h1,h2,h3,h4,h5,h6,h7,h8,h9,h10,h11,h12,h13⟩=>⟨h1,h2,h3,h4,h5,h6,h7,h8,h9,h10,h11,h12,h13⟩⟩
structure bK (ps:List (List Ins)) (W:Wd):Prop where
 one:1≤W.aa.length
 few:W.aa.length≤8
 told:W.prints.length≤500
 acs:∀(i:Nat) (a:Ac),W.aa[i]?=some a→bu ps i a
 tds:∀t∈W.prints,tdB W.aa.length t=true
theorem getD_some {α:Type} {l:List α} {i:Nat} {x d:α} (h:l[i]?=some x):l.getD i d=x:=by simp[List.getD,h]
theorem wdB_iff {ps:List (List Ins)} {W:Wd}:wdB ps W=true↔bK ps W:=by
 unfold wdB;simp only[Bool.and_eq_true,decide_eq_true_eq,List.all_eq_true,List.mem_range];refine⟨fun⟨⟨⟨⟨h1,h2⟩,h3⟩,h4⟩,h5⟩=>⟨h1,h2,h3,fun i a ha=>?_,h5⟩,fun⟨h1,h2,h3,h4,h5⟩=>⟨⟨⟨⟨h1,h2⟩,h3⟩,fun i hi=>?_⟩,h5⟩⟩
 ·have:=h4 i (zE.1 ha).1;rw[getD_some ha] at this;exact acB_iff.1 this
 ·have hg:W.aa[i]?=some W.aa[i]:=zD hi;rw[getD_some hg];exact acB_iff.2 (h4 i _ hg)
section
variable {ps:List (List Ins)} {W:Wd} {n:Int} {a:Ac}
theorem bu.hp (h:bu ps n a):kX a.heap:=(aR.1 h.heap).1
theorem bu.vals (h:bu ps n a):∀v∈a.regs++a.box,fU a.heap.ah.length v=true:=(aR.1 h.heap).2
theorem nil_val (n:Nat):fU n aQ=true:=rfl
theorem kS {n:Nat} {x:Int} (h:aY x=true):fU n ⟨1,x⟩=true:=by simpa[fU] using h
theorem bu.reg (h:bu ps n a) (r:Int):fU a.heap.ah.length (a.reg r)=true:=by
 unfold Ac.reg;by_cases hr:r.toNat<a.regs.length
 ·rw[List.getD,zD hr];exact h.vals _ (List.mem_append_left _ (List.getElem_mem hr))
 ·rw[List.getD,List.getElem?_eq_none (by omega)];rfl
theorem bu.ai (h:bu ps n a) (r:Int) {v:V} (hv:fU a.heap.ah.length v=true):bu ps n (a.ai r v):=
 {h with
  regs:=by simp[Ac.ai,h.regs]
  heap:=aR.2 ⟨h.hp,fun x hx=>by
   rcases List.mem_append.1 hx with hx|hx
   ·rcases List.mem_or_eq_of_mem_set hx with hx|rfl
    ·exact h.vals x (List.mem_append_left _ hx)
    ·exact hv
   ·exact h.vals x (List.mem_append_right _ hx)⟩}
theorem bu.aG (h:bu ps n a) {x:Int} (h0: -1≤x) (h1:x<((ps.getD a.kind.toNat []).length:Int)) (hf:a.fin=0):bu ps n (a.aG x):=
 {h with pc0:=h0,pc1:=h1,gone:= .inl hf}
theorem bu.af (h:bu ps n a) {g:Hp} (hg:hpB g (a.regs++a.box)=true) (hf:a.fin=0):bu ps n (a.af g):={h with heap:=hg,gone:= .inl hf}
theorem bu.aK (h:bu ps n a) {l:List V} (hl:l.length≤6) (hr:∀v∈l,v.k=2) (hv:∀v∈l,fU a.heap.ah.length v=true) (hf:a.fin=0):bu ps n (a.aK l):=
 {h with
  box:=hl
  refs:=hr
  gone:= .inl hf
  heap:=aR.2 ⟨h.hp,fun x hx=>by
   rcases List.mem_append.1 hx with hx|hx
   ·exact h.vals x (List.mem_append_left _ hx)
   ·exact hv x hx⟩}
theorem fK {f:Int→Int} (v:V):(aI f v).k=v.k:=by
 unfold aI;split
 ·rename_i h;exact h.symm
 ·rfl
theorem keepL_none {l:List Int}:dF 0 l= []:=rfl
theorem mo (h:bu ps n a) {l:List Int} (hl:Led a.heap.ah (aC a) [] l):aS a= {a with heap:=gU a.heap (aC a) l,regs:=(eT a.heap (aC a) l).take 8,box:=(eT a.heap (aC a) l).drop 8}:=by
 unfold aS;rw[if_neg (by simp[aC,h.heap]),dM hl]
theorem bu.clear (h:bu ps n a):bu ps n (aS a):=by
 obtain⟨l,hl,ht⟩:=kX.led h.heap;have hc:=coll_ok h.heap hl ht;have hlen:=rU h.heap l;have hn:¬hpB a.heap (a.regs++a.box)=false:=(by simp[h.heap]);rw[mo h hl];have h8:(a.regs++a.box).length=8+a.box.length:=(by simp[h.regs]);have hv:eT a.heap (a.regs++a.box) l=(a.regs++a.box).map (aI (plM 0 (dF a.heap.ah.length l))):=if_neg hn;refine {h with regs:=?_,box:=?_,heap:=?_,refs:=?_,gone:=?_}
 ·show((eT a.heap (a.regs++a.box) l).take 8).length=8
  rw[List.length_take,hlen,h8];omega
 ·show((eT a.heap (a.regs++a.box) l).drop 8).length≤6
  rw[List.length_drop,hlen,h8];have:=h.box;omega
 ·show hpB (gU a.heap (a.regs++a.box) l) ((eT a.heap (a.regs++a.box) l).take 8++(eT a.heap (a.regs++a.box) l).drop 8)=true
  rw[List.take_append_drop];exact hc
 ·intro v hv';replace hv':v∈(eT a.heap (a.regs++a.box) l).drop 8:=hv';rw[hv,←List.map_drop,List.drop_append,h.regs,Nat.sub_self,List.drop_zero,List.drop_of_length_le (by rw[h.regs];omega),List.nil_append] at hv';obtain⟨u,hu,rfl⟩:=List.mem_map.1 hv';rw[fK];exact h.refs u hu
 ·rcases h.gone with hg|⟨g1,g2,g3⟩
  ·exact .inl hg
  ·refine .inr ⟨?_,?_,g3⟩
   ·show(eT a.heap (a.regs++a.box) l).drop 8= []
    apply List.eq_nil_of_length_eq_zero
    rw[List.length_drop,hlen,h8,g1];simp
   ·show(gU a.heap (a.regs++a.box) l).ah= []
    unfold gU;rw[if_neg hn,g2];rfl
theorem mg (a:Ac):(aS a).kind=a.kind∧(aS a).parent=a.parent∧(aS a).pc=a.pc∧(aS a).fin=a.fin:=by
 unfold aS;split<;>exact⟨rfl,rfl,rfl,rfl⟩
theorem bu.mr (h:bu ps n a):(aS a).heap.most=a.heap.most:=by
 obtain⟨l,hl,ht⟩:=kX.led h.heap;rw[mo h hl];show(gU a.heap (a.regs++a.box) l).most=_
 unfold gU;rw[if_neg (by simp[h.heap])]
theorem bu.clear_box (h:bu ps n a):(aS a).box.length=a.box.length:=by
 obtain⟨l,hl,ht⟩:=kX.led h.heap;rw[mo h hl];show((eT a.heap (a.regs++a.box) l).drop 8).length=_
 rw[List.length_drop,rU h.heap];simp[h.regs]
theorem bu.ready (h:bu ps n a) (f:Int):bu ps n (aD a f):=by
 unfold aD;split
 ·exact h.clear
 ·exact h
theorem qg (a:Ac) (f:Int):(aD a f).kind=a.kind∧(aD a f).parent=a.parent∧(aD a f).pc=a.pc∧(aD a f).fin=a.fin:=by
 unfold aD;split
 ·exact mg a
 ·exact⟨rfl,rfl,rfl,rfl⟩
theorem bu.ready_box (h:bu ps n a) (f:Int):(aD a f).box.length=a.box.length:=by
 unfold aD;split
 ·exact h.clear_box
 ·rfl
theorem bu.given (h:bu ps n a) (hf:a.fin=0) (f:Int):bu ps n (aL a f)∧(bL a f=0→fU (aL a f).heap.ah.length (fG a f)=true∧(fG a f).k=2)∧(aL a f).fin=0∧(aL a f).kind=a.kind∧(aL a f).pc=a.pc∧(aL a f).parent=a.parent∧(aL a f).box.length=a.box.length:=by
 have hr:=h.ready f;obtain⟨s1,s2,s3,s4⟩:=qg a f;have hb:=h.ready_box f;unfold aL;split
 ·rename_i he
  obtain⟨g1,g2,g3,g4,g5⟩:=jE hr.heap he;have g6:=aR.1 g1;refine⟨hr.af (aR.2 ⟨g6.1,fun v hv=>g6.2 v (List.mem_append_left _ hv)⟩) (s4.trans hf),fun _=>⟨g6.2 _ (by simp[fG]),?_⟩,s4.trans hf,s1,s3,s2,hb⟩;show(bP (aD a f).heap f).k=2
  rw[g5]
 ·rename_i he
  exact⟨hr,fun e=>absurd e he,s4.trans hf,s1,s3,s2,hb⟩
theorem mV {f:Int} (h1:1≤f) (os:List Ob) (j:Int) (hj:0≤j) (hjf:j<f):bJ (os++[di f.toNat]) ⟨2,os.length⟩ j=0:=by
 unfold bJ;simp[di]
 omega
theorem ry {os:List Ob} {i j:Nat} {x v:V} {f:Int} (h:bJ os v f=0):bJ (eY os i j x) v f=0:=by
 unfold bJ at h ⊢;by_cases hk:v.k=2
 ·rw[if_pos hk] at h ⊢;rw[iU]
  cases hg:os[v.n.toNat]? with
  |none=>rw[hg] at h;cases h
  |some o=>
   rw[hg] at h;by_cases hi:i=v.n.toNat
   ·rw[if_pos hi];simpa using h
   ·rw[if_neg hi];exact h
 ·rw[if_neg hk] at h;cases h
theorem two_ok {h:Hp} {rs:List V} {x y:Int} (hp:hpB h rs=true) (he:bV h 2=0) (hx:aY x=true) (hy:aY y=true):
  hpB (twoH (bX h 2) (bP h 2) x y) (rs++[bP h 2])=true∧twoH (bX h 2) (bP h 2) x y=⟨h.most,h.ah++[⟨[⟨1,x⟩,⟨1,y⟩],false⟩]⟩:=by
 obtain⟨g1,g2,g3,g4,g5⟩:=jE hp he;obtain⟨k1,k2⟩:=aR.1 g1;have hvv:=k2 (bP h 2) (by simp);have e1:gz (bX h 2) (bP h 2) 0 ⟨1,x⟩=0:=by
  unfold gz;rw[if_neg (by rw[Bool.not_eq_false];exact aR.2 ⟨k1,fun v hv=>by simp at hv;rcases hv with rfl|rfl;exact hvv;exact kS hx⟩),g4,g5];exact mV (by omega) _ _ (by omega) (by omega)
 obtain⟨s1,s2⟩:=oD g1 e1;obtain⟨m1,m2⟩:=aR.1 s1;have hvv2:=m2 (bP h 2) (by simp);have e2:gz (setH (bX h 2) (bP h 2) 0 ⟨1,x⟩) (bP h 2) 1 ⟨1,y⟩=0:=by
  unfold gz;rw[if_neg (by rw[Bool.not_eq_false];exact aR.2 ⟨m1,fun v hv=>by simp at hv;rcases hv with rfl|rfl;exact hvv2;exact kS hy⟩),s2];refine ry ?_;rw[g4,g5];exact mV (by omega) _ _ (by omega) (by omega)
 obtain⟨t1,t2⟩:=oD s1 e2;refine⟨t1,?_⟩;show setH (setH (bX h 2) (bP h 2) 0 ⟨1,x⟩) (bP h 2) 1 ⟨1,y⟩=_
 rw[t2,s2,g4,g5];simp only[Hp.mk.injEq,true_and];apply List.ext_getElem?
 intro i;rw[iU,iU];show(if(((h.ah.length:Nat):Int).toNat)=i then _ else _)=_
 rw[Int.toNat_natCast];by_cases hi:h.ah.length=i
 ·subst hi;simp[di,List.replicate]
 ·rw[if_neg hi,if_neg hi];rcases Nat.lt_or_gt_of_ne hi with hlt|hgt
  ·rw[List.getElem?_eq_none (by simp;omega),List.getElem?_eq_none (by simp;omega)]
  ·rw[List.getElem?_append_left hgt,List.getElem?_append_left hgt]
theorem bu.tell (h:bu ps n a) (hf:a.fin=0) (hb:a.box.length≠6) {x y:Int} (hx:aY x=true) (hy:aY y=true):bu ps n (iK a x y)∧(iK a x y).fin=0:=by
 obtain⟨g1,g2,g3,g4,g5,g6,g7⟩:=h.given hf 2;unfold iK;split
 ·rename_i he
  have he':bV (aD a 2).heap 2=0:=he;have hr:=h.ready 2;obtain⟨t1,t2⟩:=two_ok hr.heap he' hx hy;obtain⟨v1,v2⟩:=aR.1 t1;have eA:aL a 2=(aD a 2).af (bX (aD a 2).heap 2):=if_pos he;have hfr:(aD a 2).fin=0:=(qg a 2).2.2.2.trans hf;have hbx:(aD a 2).box.length≤5:=(by have:=h.ready_box 2;have:=h.box;omega);rw[eA];show bu ps n (((aD a 2).af (twoH (bX (aD a 2).heap 2) (bP (aD a 2).heap 2) x y)).aK ((aD a 2).box++[bP (aD a 2).heap 2]))∧_
  refine⟨(hr.af (aR.2 ⟨v1,fun v hv=>v2 v (List.mem_append_left _ hv)⟩) hfr).aK (by simp;omega) (fun v hv=>?_) (fun v hv=>?_) hfr,hfr⟩
  ·rcases List.mem_append.1 hv with hv|hv
   ·exact hr.refs v hv
   ·simp at hv
    subst hv;exact(g2 he).2
  ·show fU (twoH (bX (aD a 2).heap 2) (bP (aD a 2).heap 2) x y).ah.length v=true
   rcases List.mem_append.1 hv with hv|hv
   ·exact v2 v (List.mem_append_left _ (List.mem_append_right _ hv))
   ·exact v2 v (List.mem_append_right _ hv)
 ·exact⟨g1,g3⟩
theorem bu.eP (h:bu ps n a) {how:Int} (h0:0≤how) (h8:how≤8):bu ps n (eP a how) where
 pV:=h.pV
 pW:=h.pW
 par0:=h.par0
 par1:=h.par1
 fin0:=h0
 fin1:=h8
 regs:=rfl
 box:=Nat.zero_le _
 heap:=aR.2 ⟨⟨h.hp.low,h.hp.high,h.hp.low,fun o ho=>by cases ho⟩,fun v hv=>by
  simp[Go.Proofs.YtdmocjnjbihloaaDoor.eP] at hv
  rw[hv];rfl⟩
 pc0:=by show(-1:Int)≤ -1;omega
 pc1:=by show(-1:Int)<_;omega
 refs:=fun v hv=>by cases hv
 gone:= .inr ⟨rfl,rfl,rfl⟩
theorem bu.mono (h:bu ps n a) {m:Int} (hm:n≤m):bu ps m a:={h with par1:=by have:=h.par1;omega}
theorem tdB_mono {n m:Nat} {t:Td} (h:tdB n t=true) (hm:n≤m):tdB m t=true:=by
 simp[tdB] at h ⊢
 omega
theorem bK.put (h:bK ps W) {i:Nat} {b:Ac} (hb:i<W.aa.length→bu ps i b):bK ps (W.put i b):=by
 refine⟨by simp only[Wd.put,List.length_set];exact h.one,by simp only[Wd.put,List.length_set];exact h.few,h.told,fun j x hx=>?_,fun t ht=>by simp only[Wd.put,List.length_set];exact h.tds t ht⟩;replace hx:(W.aa.set i b)[j]?=some x:=hx;rw[List.getElem?_set] at hx;by_cases hij:i=j
 ·subst hij;by_cases hl:i<W.aa.length
  ·simp[hl] at hx;subst hx;exact hb hl
  ·simp[hl] at hx
 ·rw[if_neg hij] at hx;exact h.acs j x hx
theorem bK.at_ (h:bK ps W) {i:Nat} (hi:i<W.aa.length):bu ps i (W.at_ i):=by
 have hg:W.aa[i]?=some W.aa[i]:=zD hi;rw[Wd.at_,getD_some hg];exact h.acs i _ hg
theorem jR {i:Int} (h:gH W i=true):0≤i∧i.toNat<W.aa.length∧(W.at_ i.toNat).fin=0:=by
 simp[gH] at h
 exact⟨h.1.1,by omega,h.2⟩
theorem bK.tell (h:bK ps W) {i x y:Int} (hx:aY x=true) (hy:aY y=true):bK ps (gZ W i x y):=by
 unfold gZ;split
 ·rename_i ho
  simp only[gV,Bool.and_eq_true] at ho;obtain⟨h1,h2,h3⟩:=jR ho.1;exact h.put (fun hl=>((h.at_ hl).tell h3 (by simpa using ho.2) hx hy).1)
 ·exact h
theorem gP {x:Int} (h0: -10≤x) (h1:x≤1000):aY x=true:=by simp[aY];omega
theorem bK.end_ (h:bK ps W) {i:Nat} (hi:i<W.aa.length) {how:Int} (h0:0≤how) (h8:how≤8):bK ps (endW W i how):=
 (h.put (fun hl=>(h.at_ hl).eP h0 h8)).tell (gP (by omega) (by have:=h.few;omega)) (gP (by omega) (by omega))
theorem spoilt_no {h:Hp} {v:V} (hs:spoilt h v=false):hpB h [v]=true∧(ay h.ah [v]).any (aV h.ah)=false:=by
 simp only[spoilt,Bool.or_eq_false_iff,beq_eq_false_iff_ne,ne_eq,Bool.not_eq_false] at hs;exact hs
theorem led_of {h:Hp} {v:V} (hp:hpB h [v]=true):∃l,ay h.ah [v]=l∧Led h.ah [v] [] l∧Told h.ah.length l:=by
 obtain⟨l,hl,ht⟩:=kX.led hp;exact⟨l,dM hl,hl,ht⟩
theorem gQ {i j:Nat} {b:Ac}:(W.put i b).at_ j=if j=i∧i<W.aa.length then b else W.at_ j:=by
 unfold Wd.at_ Wd.put;simp only[List.getD,List.getElem?_set];by_cases h:i=j
 ·subst h;by_cases hl:i<W.aa.length
  ·simp[hl]
  ·simp[hl]
 ·rw[if_neg h,if_neg (fun e=>h e.1.symm)]
theorem dx {i:Nat} {b:Ac}:(W.put i b).aa.length=W.aa.length:=by simp[Wd.put]
end
end
end Go.Proofs.YtdmocjnjbihloaaDoor
