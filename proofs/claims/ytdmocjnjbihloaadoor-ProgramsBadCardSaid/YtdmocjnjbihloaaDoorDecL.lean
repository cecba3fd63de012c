/- What bytes are read as, in plain Lean; what is read is written so again. No condition; no run. A program is read as it was written; cut short it is not; in plain Lean. No condition; no run. The walks of the statements' own comparisons: data that are the same are told to be. No condition beside what is read. The walks of heap.New and of the document's answer to it. No condition. The walks of the numbers of a program's bytes: code.number and the document's sevens. Condition: a number of 41 bits, a slice of the call's own. The walks of the reader of bytes: a byte, a number. No condition beside what is read. What a reader of programs answers, step by step; in plain Lean. No condition; no run. -/
import Derived.Test.YtdmocjnjbihloaaDoorSpecE
import Derived.Test.YtdmocjnjbihloaaDoorHeapB
import Derived.Test.YtdmocjnjbihloaaDoorActCopy
import Derived.Maps.AppendAt
import Derived.Deep.CutRange
import Derived.Test.YtdmocjnjbihloaaDoorSt
namespace Go.Proofs.YtdmocjnjbihloaaDoor
section
section
def numF:List Int→Nat→Int→Except Int (Int×List Int)
 | [],_,_=> .error 5
 |c::l,k,n=>if k=6∨(0<k∧c=0) then .error 4 else if c<128 then .ok (n+c % 128*128 ^ k,l) else numF l (k+1) (n+c % 128*128 ^ k)
def unzz (n:Int):Int:=if n % 2=1 then -(n / 2) - 1 else n / 2
def regsF (op:Int) (l:List Int):Except Int ((Int×Int)×List Int):=
 if aB op=true then(match l with
  | []=> .error 5
  |c::l=>if 63<c then .error 4 else .ok ((c % 8,c / 8),l)) else .ok ((0,0),l)
def nextF (op:Int) (l:List Int):Except Int (Int×List Int):=
 if nB op=true then(match numF l 0 0 with
  | .error e=> .error e
  | .ok (n,l)=> .ok (unzz n,l)) else .ok (0,l)
def instrF:List Int→Except Int (Ins×List Int)
 | []=> .error 5
 |op::l=>if 19<op then .error 3 else match regsF op l with
  | .error e=> .error e
  | .ok ((a,b),l)=>match nextF op l with
   | .error e=> .error e
   | .ok (n,l)=> .ok (⟨op,a,b,n⟩,l)
def codeD:Nat→List Int→Except Int (List Ins×List Int)
 |0,l=> .ok ([],l)
 |m+1,l=>match instrF l with
  | .error e=> .error e
  | .ok (i,l)=>match codeD m l with
   | .error e=> .error e
   | .ok (is,l)=> .ok (i::is,l)
def kindsD:Nat→List Int→Except Int (List (List Ins)×List Int)
 |0,l=> .ok ([],l)
 |_+1,[]=> .error 5
 |n+1,m::l=>match codeD m.toNat l with
  | .error e=> .error e
  | .ok (c,l)=>match kindsD n l with
   | .error e=> .error e
   | .ok (cs,l)=> .ok (c::cs,l)
def restD:List Int→Except Int (List (List Ins))
 | []=> .error 5
 |n::l=>match kindsD n.toNat l with
  | .error e=> .error e
  | .ok (ps,l)=>if l≠[] then .error 4 else if bT ps≠0 then .error (bT ps) else .ok ps
def progD (l:List Int):Except Int (List (List Ins)):=
 if 5000<l.length then .error 1 else match l with
 |x::y::l=>if x≠116∨y≠119 then .error 4 else restD l
 |_=> .error 5
def decP (l:List Int):List (List Ins):=match progD l with| .ok ps=>ps| .error _=>[]
def decE (l:List Int):Int:=match progD l with| .ok _=>0| .error e=>e
def AllB (l:List Int):Prop:=∀c∈l,0≤c∧c<256
theorem AllB.tail {c:Int} {l:List Int} (h:AllB (c::l)):AllB l:=fun x hx=>h x (List.mem_cons_of_mem _ hx)
theorem numF_back:∀(l:List Int) (k:Nat) (n n':Int) (l':List Int),AllB l→numF l k n= .ok (n',l')→∃d:Nat,n'=n+d*128 ^ k∧l=sev d++l'∧(0<k→0<d)∧AllB l'
 | [],_,_,_,_,_,h=>by simp[numF] at h
 |c::l,k,n,n',l',hb,h=>by
  have hc:=hb c (by simp);rw[numF] at h;split at h
  ·cases h
  ·rename_i hk
   split at h
   ·rename_i hc'
    injection h with h
    injection h with h1 h2
    subst h1 h2;refine⟨c.toNat,by rw[show((c.toNat:Nat):Int)=c % 128 by omega],?_,fun hk'=>by omega,hb.tail⟩;rw[sev_lt (by omega)];simp
    omega
   ·rename_i hc'
    obtain⟨d,h1,h2,h3,h4⟩:=numF_back l (k+1) _ n' l' hb.tail h;have hd:=h3 (by omega);refine⟨(c % 128).toNat+128*d,?_,?_,fun _=>by omega,h4⟩
    ·have e1:(((c % 128).toNat+128*d:Nat):Int)=c % 128+128*(d:Int):=(by omega);rw[h1,e1,Int.pow_succ,Int.add_mul];have:(d:Int)*(128 ^ k*128)=128*(d:Int)*128 ^ k:=(by ac_rfl);omega
    ·rw[sev_ge (by omega),h2];have e1:((c % 128).toNat+128*d) / 128=d:=(by omega);have e2:((128+((c % 128).toNat+128*d) % 128:Nat):Int)=c:=(by omega);rw[e1,e2];rfl
theorem zz_unzz (d:Nat):zz (unzz d)=d:=by
 unfold zz unzz;split<;>split<;>omega
theorem regsF_back {op:Int} {l l':List Int} {a b:Int} (hb:AllB l) (h:regsF op l= .ok ((a,b),l')):l=(if aB op then [a+8*b] else [])++l'∧AllB l':=by
 unfold regsF at h;split at h
 ·rename_i ha
  match l,h with
  |c::l,h=>
   simp only at h;split at h
   ·cases h
   ·injection h with h
    injection h with h1 h2
    injection h1 with h1 h3
    subst h1 h2 h3;refine⟨?_,hb.tail⟩;rw[if_pos ha];have:=hb c (by simp);simp
    omega
 ·rename_i ha
  injection h with h
  injection h with h1 h2
  subst h2;exact⟨by rw[if_neg ha];rfl,hb⟩
theorem nextF_back {op:Int} {l l':List Int} {n:Int} (hb:AllB l) (h:nextF op l= .ok (n,l')):l=(if nB op then sev (zz n) else [])++l'∧AllB l':=by
 unfold nextF at h;split at h
 ·rename_i ha
  split at h
  ·cases h
  ·rename_i n0 l0 hn
   injection h with h
   injection h with h1 h2
   subst h1 h2;obtain⟨d,e1,e2,-,e4⟩:=numF_back l 0 0 n0 l0 hb hn;refine⟨?_,e4⟩;rw[if_pos ha,e2];have:n0=d:=(by rw[e1];simp);rw[this,zz_unzz]
 ·rename_i ha
  injection h with h
  injection h with h1 h2
  subst h2;exact⟨by rw[if_neg ha];rfl,hb⟩
theorem instrF_back {l l':List Int} {i:Ins} (hb:AllB l) (h:instrF l= .ok (i,l')):l=insB i++l'∧AllB l':=by
 match l,hb,h with
 |op::l,hb,h=>
  rw[instrF] at h;split at h
  ·cases h
  ·split at h
   ·cases h
   ·rename_i a b l1 h1
    split at h
    ·cases h
    ·rename_i n l2 h2
     injection h with h
     injection h with e1 e2
     subst e1 e2;obtain⟨g1,g2⟩:=regsF_back hb.tail h1;obtain⟨g3,g4⟩:=nextF_back g2 h2;refine⟨?_,g4⟩;rw[g1,g3];simp[insB]
theorem codeD_back:∀(m:Nat) (l l':List Int) (is:List Ins),AllB l→codeD m l= .ok (is,l')→is.length=m∧l=(is.map insB).flatten++l'∧AllB l'
 |0,l,l',is,hb,h=>by
  injection h with h
  injection h with h1 h2
  subst h1 h2;exact⟨rfl,rfl,hb⟩
 |m+1,l,l',is,hb,h=>by
  rw[codeD] at h;split at h
  ·cases h
  ·rename_i i l1 h1
   split at h
   ·cases h
   ·rename_i js l2 h2
    injection h with h
    injection h with e1 e2
    subst e1 e2;obtain⟨g1,g2⟩:=instrF_back hb h1;obtain⟨g3,g4,g5⟩:=codeD_back m l1 l2 js g2 h2;exact⟨by simp[g3],by rw[g1,g4];simp,g5⟩
theorem kindsD_back:∀(m:Nat) (l l':List Int) (ps:List (List Ins)),AllB l→kindsD m l= .ok (ps,l')→ps.length=m∧l=(ps.map codeB).flatten++l'∧AllB l'
 |0,l,l',is,hb,h=>by
  injection h with h
  injection h with h1 h2
  subst h1 h2;exact⟨rfl,rfl,hb⟩
 |_+1,[],_,_,_,h=>by cases h
 |n+1,m::l,l',ps,hb,h=>by
  rw[kindsD] at h;split at h
  ·cases h
  ·rename_i c l1 h1
   split at h
   ·cases h
   ·rename_i cs l2 h2
    injection h with h
    injection h with e1 e2
    subst e1 e2;obtain⟨g0,g1,g2⟩:=codeD_back m.toNat l l1 c hb.tail h1;obtain⟨g3,g4,g5⟩:=kindsD_back n l1 l2 cs g2 h2;have hm:=hb m (by simp);refine⟨by simp[g3],?_,g5⟩;rw[g1,g4];simp[codeB]
    omega
theorem restD_back {l:List Int} {ps:List (List Ins)} (hb:AllB l) (h:restD l= .ok ps):bT ps=0∧(ps.length:Int)::(ps.map codeB).flatten=l:=by
 match l,hb,h with
 |n::l,hb,h=>
  rw[restD] at h;split at h
  ·cases h
  ·rename_i qs l1 h1
   split at h
   ·cases h
   ·rename_i hl
    split at h
    ·cases h
    ·rename_i hp
     injection h with h
     subst h;obtain⟨g1,g2,g3⟩:=kindsD_back n.toNat l l1 qs hb.tail h1;have hn:=hb n (by simp);have hl':l1= []:=(by simpa using hl);refine⟨by simpa using hp,?_⟩;rw[g2,hl'];simp
     omega
theorem progD_back {l:List Int} {ps:List (List Ins)} (hb:AllB l) (h:progD l= .ok ps):bT ps=0∧progB ps=l:=by
 unfold progD at h;split at h
 ·cases h
 ·match l,hb,h with
  | [],_,h=>cases h
  | [_],_,h=>cases h
  |x::y::l,hb,h=>
   simp only at h;split at h
   ·cases h
   ·rename_i hxy
    obtain⟨h1,h2⟩:=restD_back hb.tail.tail h;refine⟨h1,?_⟩;have hx:x=116:=(by omega);have hy:y=119:=(by omega);rw[hx,hy,←h2];simp[progB]
end
section
def pre {α:Type} (is:List α):Except Int (List α×List Int)→Except Int (List α×List Int)
 | .error e=> .error e
 | .ok (js,l)=> .ok (is++js,l)
theorem pre_nil {α:Type} (r:Except Int (List α×List Int)):pre [] r=r:=by rcases r with _|⟨_,_⟩<;>rfl
theorem pre_pre {α:Type} (a b:List α) (r:Except Int (List α×List Int)):pre a (pre b r)=pre (a++b) r:=by rcases r with _|⟨_,_⟩<;>simp[pre]
theorem codeD_ok {m:Nat} {l l':List Int} {i:Ins} (h:instrF l= .ok (i,l')):codeD (m+1) l=pre [i] (codeD m l'):=by
 rw[codeD,h];dsimp only;rcases codeD m l' with _|⟨_,_⟩<;>rfl
theorem codeD_err {m:Nat} {l:List Int} {e:Int} (h:instrF l= .error e):codeD (m+1) l= .error e:=by rw[codeD,h]
theorem kindsD_ok {n:Nat} {m:Int} {l l':List Int} {c:List Ins} (h:codeD m.toNat l= .ok (c,l')):kindsD (n+1) (m::l)=pre [c] (kindsD n l'):=by
 rw[kindsD,h];dsimp only;rcases kindsD n l' with _|⟨_,_⟩<;>rfl
theorem kindsD_err {n:Nat} {m e:Int} {l:List Int} (h:codeD m.toNat l= .error e):kindsD (n+1) (m::l)= .error e:=by rw[kindsD,h]
structure Reads {α:Type} (f:List Int→Except Int (α×List Int)) (B:List Int) (a:α):Prop where
 all:∀l,f (B++l)= .ok (a,l)
 cut:∀c,c<B.length→f (B.take c)= .error 5
def bindD {α β:Type} (g:List Int→Except Int (α×List Int)) (h:α→List Int→Except Int (β×List Int)) (l:List Int):Except Int (β×List Int):=
 match g l with
 | .error e=> .error e
 | .ok (b,l)=>h b l
def retD {α:Type} (a:α) (l:List Int):Except Int (α×List Int):= .ok (a,l)
def byteD:List Int→Except Int (Int×List Int)
 | []=> .error 5
 |c::l=> .ok (c,l)
theorem Reads.ret {α:Type} (a:α):Reads (retD a) [] a:=⟨fun _=>rfl,fun c h=>absurd h (Nat.not_lt_zero c)⟩
theorem Reads.byte (c:Int):Reads byteD [c] c:=⟨fun _=>rfl,fun k h=>by
 obtain rfl:k=0:=(by simpa using h);rfl⟩
theorem Reads.bind {α β:Type} {g:List Int→Except Int (α×List Int)} {h:α→List Int→Except Int (β×List Int)} {B C:List Int} {a:α} {b:β} (h1:Reads g B a) (h2:Reads (h a) C b):Reads (bindD g h) (B++C) b:=by
 refine⟨fun l=>?_,fun c hc=>?_⟩
 ·unfold bindD;rw[List.append_assoc,h1.all];exact h2.all l
 ·unfold bindD;by_cases hcb:c<B.length
  ·rw[List.take_append_of_le_length (by omega),h1.cut c hcb]
  ·have e:(B++C).take c=B++C.take (c - B.length):=(by rw[List.take_append,List.take_of_length_le (by omega)]);rw[e,h1.all];exact h2.cut _ (by simp at hc;omega)
theorem Reads.of {α:Type} {f g:List Int→Except Int (α×List Int)} {B:List Int} {a:α} (h:Reads g B a) (e:∀l,f l=g l):Reads f B a:=
 ⟨fun l=>(e _).trans (h.all l),fun c hc=>(e _).trans (h.cut c hc)⟩
theorem pow_split (d k:Nat) (n:Int):n+((128+d % 128:Nat):Int) % 128*128 ^ k+((d / 128:Nat):Int)*128 ^ (k+1)=n+(d:Int)*128 ^ k:=by
 have e1:((128+d % 128:Nat):Int) % 128=(d:Int) - 128*((d / 128:Nat):Int):=(by omega);rw[e1,Int.pow_succ,Int.sub_mul];have:((d / 128:Nat):Int)*(128 ^ k*128)=128*((d / 128:Nat):Int)*128 ^ k:=(by ac_rfl);omega
theorem num_step {d k:Nat} {n:Int} {l:List Int} (_h1:¬d<128) (hk:k<6):numF (((128+d % 128:Nat):Int)::l) k n=numF l (k+1) (n+((128+d % 128:Nat):Int) % 128*128 ^ k):=by
 rw[numF,if_neg (by omega),if_neg (by omega)]
theorem numF_all:∀(j d k:Nat) (n:Int) (l:List Int),d<128 ^ j→j+k≤6→(k=0∨0<d)→numF (sev d++l) k n= .ok (n+d*128 ^ k,l)
 |0,d,k,n,l,hd,hk,h0=>by
  obtain rfl:d=0:=(by simpa using hd);rw[sev_lt (by omega),List.singleton_append,numF,if_neg (by omega),if_pos (by decide)];simp
 |j+1,d,k,n,l,hd,hk,h0=>by
  by_cases h1:d<128
  ·rw[sev_lt h1,List.singleton_append,numF,if_neg (by omega),if_pos (by omega)];rw[show(d:Int) % 128=d by omega]
  ·rw[sev_ge h1,List.cons_append,num_step h1 (by omega),numF_all j (d / 128) (k+1) _ l (by rw[Nat.div_lt_iff_lt_mul (by omega)];rw[Nat.pow_succ] at hd;exact hd) (by omega) (.inr (by omega)),pow_split]
theorem numF_cut:∀(j d k:Nat) (n:Int) (c:Nat),d<128 ^ j→j+k≤6→c<(sev d).length→numF ((sev d).take c) k n= .error 5
 |_,_,_,_,0,_,_,_=>by simp[numF]
 |0,d,k,n,c+1,hd,_,hc=>by
  obtain rfl:d=0:=(by simpa using hd);rw[sev_lt (by omega)] at hc;simp at hc
 |j+1,d,k,n,c+1,hd,hk,hc=>by
  by_cases h1:d<128
  ·rw[sev_lt h1] at hc;simp at hc
  ·rw[sev_ge h1] at hc ⊢;rw[List.take_succ_cons,num_step h1 (by omega)];exact numF_cut j (d / 128) (k+1) _ c (by rw[Nat.div_lt_iff_lt_mul (by omega)];rw[Nat.pow_succ] at hd;exact hd) (by omega) (by simpa using hc)
theorem unzz_zz (n:Int):unzz (zz n)=n:=by
 unfold zz unzz;split<;>split<;>omega
theorem nextF_reads {op n:Int} (h: -1099511627776≤n∧n≤1099511627776) (h0:nB op=false→n=0):Reads (nextF op) (if nB op then sev (zz n) else []) n:=by
 have hz:=zz_le h;refine⟨fun l=>?_,fun c hc=>?_⟩
 ·unfold nextF;split
  ·rw[numF_all 6 (zz n) 0 0 l (by omega) (by omega) (.inl rfl)];simp[unzz_zz]
  ·rename_i hn
   rw[h0 (by simpa using hn)];rfl
 ·unfold nextF;split at hc
  ·rename_i hn
   rw[if_pos hn,if_pos hn,numF_cut 6 (zz n) 0 0 c (by omega) (by omega) hc]
  ·simp at hc
theorem regsF_reads {op a b:Int} (ha:0≤a∧a≤7) (hb:0≤b∧b≤7) (h0:aB op=false→a=0∧b=0):Reads (regsF op) (if aB op then [a+8*b] else []) (a,b):=by
 refine⟨fun l=>?_,fun c hc=>?_⟩
 ·unfold regsF;split
  ·simp only[List.singleton_append];rw[if_neg (by omega)];congr 3<;>omega
  ·rename_i hn
   obtain⟨rfl,rfl⟩:=h0 (by simpa using hn);rfl
 ·unfold regsF;split at hc
  ·rename_i hn
   obtain rfl:c=0:=(by simpa using hc);simp[hn]
  ·simp at hc
theorem instrF_reads {i:Ins} (h:InsOk i) (ha:aB i.op=false→i.a=0∧i.b=0) (hn:nB i.op=false→i.n=0):Reads instrF (insB i) i:=by
 refine Reads.of (g:=bindD byteD (fun op=>if 19<op then fun _=> .error 3 else bindD (regsF op) fun ab=>bindD (nextF op) fun n=>retD ⟨op,ab.1,ab.2,n⟩)) ?_ (fun l=>?_)
 ·have e:insB i= [i.op]++((if aB i.op then [i.a+8*i.b] else [])++((if nB i.op then sev (zz i.n) else [])++[])):=(by simp[insB]);rw[e];refine(Reads.byte i.op).bind ?_;rw[if_neg (by have:=h.op;omega)];exact(regsF_reads h.a h.b ha).bind ((nextF_reads h.n hn).bind (Reads.ret _))
 ·cases l with
  |nil=>rfl
  |cons op l=>
   rw[instrF];simp only[bindD,byteD];split
   ·rfl
   ·simp only[bindD,retD];rcases regsF op l with _|⟨⟨a,b⟩,l1⟩
    ·rfl
    ·simp only;rcases nextF op l1 with _|⟨n,l2⟩<;>rfl
theorem codeD_reads:∀(is:List Ins),(∀i∈is,Reads instrF (insB i) i)→Reads (codeD is.length) (is.map insB).flatten is
 | [],_=>⟨fun _=>rfl,fun c h=>absurd h (Nat.not_lt_zero c)⟩
 |i::is,h=>by
  refine Reads.of (g:=bindD instrF (fun i=>bindD (codeD is.length) fun js=>retD (i::js))) ?_ (fun l=>?_)
  ·have e:((i::is).map insB).flatten=insB i++((is.map insB).flatten++[]):=(by simp);rw[e];exact(h i (by simp)).bind ((codeD_reads is (fun j hj=>h j (by simp[hj]))).bind (Reads.ret _))
  ·rw[List.length_cons,codeD];unfold bindD;rcases instrF l with _|⟨i,l1⟩
   ·rfl
   ·simp only;rcases codeD is.length l1 with _|⟨js,l2⟩<;>rfl
theorem kindsD_reads:∀(ps:List (List Ins)),(∀l∈ps,∀i∈l,Reads instrF (insB i) i)→Reads (kindsD ps.length) (ps.map codeB).flatten ps
 | [],_=>⟨fun _=>rfl,fun c h=>absurd h (Nat.not_lt_zero c)⟩
 |k::ps,h=>by
  refine Reads.of (g:=bindD byteD (fun m=>bindD (codeD m.toNat) fun c=>bindD (kindsD ps.length) fun cs=>retD (c::cs))) ?_ (fun l=>?_)
  ·have e:((k::ps).map codeB).flatten= [(k.length:Int)]++((k.map insB).flatten++((ps.map codeB).flatten++[])):=(by simp[codeB]);rw[e];refine(Reads.byte (k.length:Int)).bind ?_;exact(codeD_reads k (h k (by simp))).bind ((kindsD_reads ps (fun j hj=>h j (by simp[hj]))).bind (Reads.ret _))
  ·rw[List.length_cons]
   cases l with
   |nil=>rfl
   |cons m l=>
    rw[kindsD];simp only[bindD,byteD];rcases codeD m.toNat l with _|⟨c,l1⟩
    ·rfl
    ·simp only;rcases kindsD ps.length l1 with _|⟨cs,l2⟩<;>rfl
theorem insF_zero {kinds len at_:Int} {i:Ins} (h:insF kinds len at_ i=0):Reads instrF (insB i) i:=by
 have hok:=insF_ok h;unfold insF at h;split at h
 ·cases h
 rename_i h1
 split at h
 ·cases h
 rename_i h2
 split at h
 ·cases h
 rename_i h3
 refine instrF_reads hok (fun ha=>?_) (fun hn=>?_)
 ·rcases op_cases h1 with e|e|e|e|e|e|e|e|e|e|e|e|e|e|e|e|e|e|e|e<;>rw[e] at ha h3<;>simp[aB,bB] at ha h3<;>first|exact h3|(exact absurd ha (by decide))
 ·have hh:lowN i.op=0∧ov i.op=0:=by
   rcases op_cases h1 with e|e|e|e|e|e|e|e|e|e|e|e|e|e|e|e|e|e|e|e<;>rw[e] at hn ⊢ <;>first|exact⟨by decide,by decide⟩|(exact absurd hn (by decide))
  omega
theorem progF_reads {ps:List (List Ins)} (h:bT ps=0):Reads (kindsD ps.length) (ps.map codeB).flatten ps:=by
 obtain⟨h0,h6,-⟩:=qV h;unfold bT at h;rw[if_neg h0,if_neg (by omega)] at h;refine kindsD_reads ps (fun l hl i hi=>?_);have hc:codeF ps.length l=0:=ik h _ (List.mem_map.2 ⟨l,hl,rfl⟩);unfold codeF at hc;split at hc
 ·cases hc
 obtain⟨k,hk⟩:=List.getElem?_of_mem hi;exact insF_zero (ik hc _ (zF (qJ hk)))
theorem prog_cons (ps:List (List Ins)):progB ps=116::119::(ps.length:Int)::(ps.map codeB).flatten:=rfl
theorem progD_all {ps:List (List Ins)} (h:bT ps=0) (hl:(progB ps).length≤5000):progD (progB ps)= .ok ps:=by
 unfold progD;rw[if_neg (by omega),prog_cons];simp only;rw[if_neg (by decide)];unfold restD;have:=(progF_reads h).all [];rw[List.append_nil] at this;simp[this,h]
theorem progD_more {ps:List (List Ins)} (h:bT ps=0) (hl:(progB ps).length<5000) (x:Int):progD (progB ps++[x])= .error 4:=by
 unfold progD;rw[if_neg (by simp;omega),prog_cons];simp only[List.cons_append];rw[if_neg (by decide)];unfold restD;simp[(progF_reads h).all [x]]
theorem progD_cut {ps:List (List Ins)} (h:bT ps=0) (hl:(progB ps).length≤5000) {c:Nat} (hc:c<(progB ps).length):progD ((progB ps).take c)= .error 5:=by
 unfold progD;rw[if_neg (by simp;omega)];rw[prog_cons] at hc ⊢;match c with
 |0=>rfl
 |1=>rfl
 |2=>rfl
 |c+3=>
  simp only[List.take_succ_cons];rw[if_neg (by decide)];unfold restD;have:=(progF_reads h).cut c (by simpa using hc);simp[this]
end
end
section
section
section
open Go.RowKit
theorem quiet_add {P:Program} {f:FuncId} {args:Array Value} {w:World} {a n:Nat} {v:Value}
  (h:Calls P f args (w.drewN (a+n)) fun e w'=>e= .returned v∧∃m,w'=(w.drewN (a+n)).drewN m):
  Calls P f args (w.drewN (a+n)) fun e w''=>e= .returned v∧∃m,w''=w.drewN (a+m):=
 h.mono fun _ _ ⟨he,m,hm⟩=>⟨he,n+m,by rw[hm,World.drewN_drewN,Nat.add_assoc]⟩
theorem below_drewN {B:Nat} {a w:World} (h:Below B a w) (n:Nat):Below B a (w.drewN n):=⟨h.os,h.tape,h.output,h.size,h.block⟩
end
section
open Go.RowKit
def newM (most:Int):Int:=if 0≤most∧most≤60 then most else 0
def newE (most:Int):Int:=if 0≤most∧most≤60 then 0 else 2
set_option maxHeartbeats 400000 in
theorem new_any (most:Int) (w:World):
  Calls Tryd.prog 48 #[.int .i64 most] w fun e w'=>e= .returned (.tuple #[.agg #[.int .i64 (newM most),.slice none 0 0],.int .i64 (newE most)])∧Below w.heap.size w w':=by
 by_cases h:0≤most∧most≤60
 ·obtain⟨h1,h2⟩:=h;have e1:newM most=most:=if_pos ⟨h1,h2⟩;have e2:newE most=0:=if_pos ⟨h1,h2⟩;rw[e1,e2];clear e1 e2;go_enter Tryd.func48,Tryd.ntmps48
  go_wp2
  exact bodyPost_ret (v:= .tuple #[.agg #[.int .i64 most,.slice none 0 0],.int .i64 0]) (by simp[results,Tryd.results48,go_sem]) rfl ⟨rfl,(Below.refl _ _).alloc (Nat.le_refl _) _⟩
 ·have e1:newM most=0:=if_neg h;have e2:newE most=2:=if_neg h;rw[e1,e2];clear e1 e2;rcases (by omega:most<0∨(0≤most∧60<most)) with h1|h1
  all_goals
   clear h;go_enter Tryd.func48,Tryd.ntmps48
   go_wp2
   exact bodyPost_ret (v:= .tuple #[.agg #[.int .i64 0,.slice none 0 0],.int .i64 2]) (by simp[results,Tryd.results48,go_sem]) rfl ⟨rfl,(Below.refl _ _).alloc (Nat.le_refl _) _⟩
theorem aj.nil {α:Type} {E:El α} {w:World} {S:Nat→Prop}:aj E w S (.slice none ([]:List α).length 0) []:=
 ⟨none,0,rfl,Nat.le_refl _,Nat.zero_le _,by simp,fun h=>absurd rfl h⟩
end
end
section
open Go.RowKit
theorem infoU8:(Tryd.prog.info? 5).map (fun i=>(i.zero,i.size,i.bytes))=some (some (.int .u8 0),1,1):=by kernel_rfl
abbrev U8 (l:List Int):List Value:=l.map (.int .u8)
theorem U8_one (l:List Int):∀u∈U8 l,u.oneCell'=true:=fun u hu=>by
 obtain⟨x,_,rfl⟩:=List.mem_map.1 hu;rfl
theorem own_u8 {w:World} {g base:Nat} {cs:List Value} {t:TypeId} (h:w.heap[g]?=some (.cells cs.toArray t (0,0))) (hs:cs.length≤maxLen) (hb:base≤g):
  w.ownsRow base t 1 (.slice (some ⟨g,0,none⟩) cs.length cs.length) cs.length cs:=⟨by simp,.inr ⟨g,cs.length,cs.toArray,rfl,hb,h,Nat.le_refl _,hs,by simp,by simp⟩⟩
theorem bits_and_i64_nat (a b:Nat) (ha:a<4611686018427387904) (hb:b<4611686018427387904):bits .and .i64 (a:Int) (b:Int)=((a&&& b:Nat):Int):=by
 have hx:a&&& b<2 ^ 62:=Nat.and_lt_two_pow _ (by omega);have h1:(BitVec.ofInt 64 (a:Int)).toNat=a:=by
  rw[BitVec.ofInt_natCast,BitVec.toNat_ofNat];exact Nat.mod_eq_of_lt (by omega)
 have h2:(BitVec.ofInt 64 (b:Int)).toNat=b:=by
  rw[BitVec.ofInt_natCast,BitVec.toNat_ofNat];exact Nat.mod_eq_of_lt (by omega)
 show IntKind.i64.wrap ((BitVec.ofInt 64 (a:Int)&&& BitVec.ofInt 64 (b:Int)).toNat:Int)=_
 rw[BitVec.toNat_and,h1,h2,IntKind.wrap_i64];omega
theorem bits_or_i64_nat (a b:Nat) (ha:a<4611686018427387904) (hb:b<4611686018427387904):bits .or .i64 (a:Int) (b:Int)=((a|||b:Nat):Int):=by
 have hx:a|||b<2 ^ 62:=Nat.or_lt_two_pow (by omega) (by omega)
 have h1:(BitVec.ofInt 64 (a:Int)).toNat=a:=by
  rw[BitVec.ofInt_natCast,BitVec.toNat_ofNat];exact Nat.mod_eq_of_lt (by omega)
 have h2:(BitVec.ofInt 64 (b:Int)).toNat=b:=by
  rw[BitVec.ofInt_natCast,BitVec.toNat_ofNat];exact Nat.mod_eq_of_lt (by omega)
 show IntKind.i64.wrap ((BitVec.ofInt 64 (a:Int)|||BitVec.ofInt 64 (b:Int)).toNat:Int)=_
 rw[BitVec.toNat_or,h1,h2,IntKind.wrap_i64];omega
theorem low_seven (k:Nat) (h:k<4611686018427387904):bits .and .i64 (k:Int) 127=((k % 128:Nat):Int):=by
 have:=bits_and_i64_nat k 127 h (by omega);rw[show k&&& 127=k % 128 from Nat.and_two_pow_sub_one_eq_mod k 7] at this;exact this
theorem one_more (m:Nat) (h:m<128):bits .or .i64 (m:Int) 128=((128+m:Nat):Int):=by
 have:=bits_or_i64_nat m 128 (by omega) (by omega);rw[Nat.or_comm,←Nat.two_pow_add_eq_or_of_lt (i:=7) h 1] at this;exact this
theorem two_regs (a b:Nat) (ha:a<8) (hb:b<8):bits .or .i64 (a:Int) ((b:Int)*8)=((a+8*b:Nat):Int):=by
 have:=bits_or_i64_nat a (b*8) (by omega) (by omega);rw[Nat.or_comm,Nat.mul_comm b 8,←Nat.two_pow_add_eq_or_of_lt (i:=3) ha b] at this;rw[show((b:Int)*8)=((8*b:Nat):Int) by omega,this];omega
structure Grew (w w':World) (v v':Value):Prop where
 os:w'.os=w.os
 tape:w'.tape=w.tape
 output:w'.output=w.output
 keep:∀b,b<w.heap.size→v.ownBlock≠some b→w'.heap[b]?=w.heap[b]?
 size:w.heap.size≤w'.heap.size
 at_:∀g,v'.ownBlock=some g→v.ownBlock=some g∨w.heap.size≤g
theorem Grew.refl {w:World} {v:Value}:Grew w w v v:=⟨rfl,rfl,rfl,fun _ _ _=>rfl,Nat.le_refl _,fun _ h=> .inl h⟩
theorem Grew.trans {w w' w2:World} {v v' v2:Value} (h:Grew w w' v v') (h':Grew w' w2 v' v2):Grew w w2 v v2:=
 ⟨h'.os.trans h.os,h'.tape.trans h.tape,h'.output.trans h.output,fun b hb hn=>(h'.keep b (Nat.lt_of_lt_of_le hb h.size) (fun e=>(h.at_ b e).elim hn (fun e=>absurd hb (Nat.not_lt.2 e)))).trans (h.keep b hb hn),Nat.le_trans h.size h'.size,
  fun g hg=>(h'.at_ g hg).elim (h.at_ g) (fun e=> .inr (Nat.le_trans h.size e))⟩
theorem Grew.app {w w2:World} {o:Obj} {v v2:Value} (hg:(w.alloc o).grownBy w2 v.ownBlock) (hat:v2.ownBlock=v.ownBlock∨v2.ownBlock=some (w.heap.size+1)):Grew w w2 v v2:=
 ⟨hg.os,hg.tape,hg.output,fun b hb hn=>(hg.block b (by simp;omega) hn.symm).trans (Below.heap_alloc _ _ _ hb),by have:=hg.size;simp at this;omega,fun g h=>hat.elim (fun e=> .inl (e ▸ h)) (fun e=> .inr (by
  rw[e] at h;injection h with h
  omega))⟩
theorem Grew.below {w w':World} {v v':Value} (h:Grew w w' v v') {base:Nat} (hb:base≤w.heap.size) (hv:∀g,v.ownBlock=some g→base≤g):Below base w w':=
 ⟨h.os,h.tape,h.output,h.size,fun k hk=>h.keep k (by omega) (fun e=>by have:=hv k e;omega)⟩
set_option maxRecDepth 100000 in
set_option maxHeartbeats 4000000 in
theorem number_any (base:Nat) (B:Option Addr) (d:Nat) (xs:List Int) (n:Int) (hn: -1099511627776≤n∧n≤1099511627776) (hx:xs.length≤1000000) (w:World)
  (hown:w.ownsRow base 5 1 (.slice B xs.length d) xs.length (U8 xs)) (hb:base≤w.heap.size):
  Calls Tryd.prog 46 #[.slice B xs.length d,.int .i64 n] w fun e w'=>∃B' d',e= .returned (.slice B' (xs++sev (zz n)).length d')∧
   w'.ownsRow base 5 1 (.slice B' (xs++sev (zz n)).length d') (xs++sev (zz n)).length (U8 (xs++sev (zz n)))∧Grew w w' (.slice B xs.length d) (.slice B' (xs++sev (zz n)).length d'):=by
 obtain⟨i0,hi0,hz0,hz1,hz2⟩:=info_parts infoU8;obtain⟨zs,hzs⟩:∃zs,xs++sev (zz n)=zs:=⟨_,rfl⟩;rw[hzs];have hzl:zs.length≤1000006:=(by have:=sev_six hn;rw[←hzs];simp;omega);have Hown:=zG hown;have Hz:=zG (zz_le hn);have Hs:=zG (sev_six hn);clear hown;go_enter Tryd.func46,Tryd.ntmps46
 have hz2':zz n≤2199023255552:=Hz.out;go_upto_if 6 with fail
 go_cut [1] from 7 to 11 (fun s wx=>s= .int .i64 (zz n)∧wx=w)
 case first=>
  by_cases h0:n<0
  ·have hzn:((zz n:Nat):Int)= -2*n - 1:=(by unfold zz;rw[if_pos h0];omega);go_wp2_with fail;go_meet
   exact⟨by rw[hzn],rfl⟩
  ·have hzn:((zz n:Nat):Int)=2*n:=(by unfold zz;rw[if_neg h0];omega);go_wp2_with fail;go_meet
   exact⟨by rw[hzn];congr 1;omega,rfl⟩
 case rest=>
 obtain⟨rfl,hwc⟩:=hcut;rw[hwc];clear hwc;go_wp2_with fail;generalize zz n=q at*;go_loopw [0,1] (fun v m wr=>∃(k:Nat) (ys:List Int) (B':Option Addr) (d':Nat),m= .int .i64 k∧v= .slice B' ys.length d'∧wr.ownsRow base 5 1 (.slice B' ys.length d') ys.length (U8 ys)∧
   Grew w wr (.slice B xs.length d) (.slice B' ys.length d')∧ys++sev k=zs∧k≤q) (fun _ m _=>(intOf m).toNat)
 case atStart=>exact⟨q,xs,B,d,rfl,rfl,Hown.out,Grew.refl,hzs,Nat.le_refl _⟩
 case round=>
  obtain⟨k,ys,B',d',rfl,rfl,hown,hg,hl,hk⟩:=hrel;have hyl:ys.length≤1000006:=(by rw[←hl] at hzl;simp at hzl;omega);have Hown1:=zG hown;have Hg:=zG hg;have Hl:=zG hl;have hgs:=hg.size;clear hown hg hl;by_cases h1:k<128
  ·have i1:¬(127:Int)<(k:Int):=(by omega);go_wp2_with (at_builtin;go_loud (refine wpList_append_own_at _ rfl (.tmp 23) (.tmp 26) _ rfl base 5 i0 _ 1 1 Tryd.underlying62 hi0 hz0 hz1 hz2 rfl (by omega) _ ys.length (U8 ys) rfl (Hown1.alloc _) ⟨wr.heap.size,0,none⟩ 1 1 (U8 [(k:Int)]) rfl rfl (World.news_of_block (cs:=#[.int .u8 (k:Int)]) (t:=5) (fr:=(0,0)) (heap_alloc_new wr _)) (U8_one _) (by unfold maxLen;omega) (by omega) (by simp;omega) ?next))
   case next=>
    intro v5 w5 hown5 hg5 _ hat5;obtain⟨A5,c5,rfl⟩:=bZ hown5;have hz':ys++[(k:Int)]=zs:=(by rw[←Hl.out,sev_lt h1]);have hzl':ys.length+1=zs.length:=(by rw[←hz'];simp);have Hg5:=zG (Grew.trans Hg.out (Grew.app hg5 hat5));have Hown5:=zG hown5;clear hown5 hg5 hat5;go_wp2_with fail;go_ret
    refine⟨A5,c5,by rw[←hzl'];rfl,?_,by have:=Hg5.out;rw[hzl'] at this;exact this⟩;have:=Hown5.out;rw[hzl'] at this;have he:U8 ys++[.int .u8 (k:Int)]=U8 zs:=(by rw[←hz'];simp);rw[he] at this;exact this
  ·have i1:(127:Int)<(k:Int):=(by omega);have e1:=low_seven k (by omega);have e2:=one_more (k % 128) (by omega);have e3:((128+k % 128:Nat):Int) % 256=((128+k % 128:Nat):Int):=(by omega);generalize hby:(128+k % 128:Nat)=by_ at*;generalize hlo:k % 128=lo at*;have hsv:sev k=(by_:Int)::sev (k / 128):=(by rw[sev_ge h1,hlo,hby]);have Hsv:=zG hsv;clear hsv;go_wp2_with (at_builtin;go_loud (refine wpList_append_own_at _ rfl (.tmp 14) (.tmp 19) _ rfl base 5 i0 _ 1 1 Tryd.underlying62 hi0 hz0 hz1 hz2 rfl (by omega) _ ys.length (U8 ys) rfl (Hown1.alloc _) ⟨wr.heap.size,0,none⟩ 1 1 (U8 [(by_:Int)]) rfl rfl (World.news_of_block (cs:=#[.int .u8 (by_:Int)]) (t:=5) (fr:=(0,0)) (heap_alloc_new wr _)) (U8_one _) (by unfold maxLen;omega) (by omega) (by simp;omega) ?next))
   case next=>
    intro v5 w5 hown5 hg5 _ hat5;obtain⟨A5,c5,rfl⟩:=bZ hown5;have hyl5:(ys++[(by_:Int)]).length=ys.length+1:=(by simp);have Hg5:=zG (Grew.trans Hg.out (Grew.app hg5 (by simpa using hat5)));have Hown5:=zG hown5;clear hown5 hg5 hat5;go_wp2_with fail;go_roundw
    case rel=>
     refine⟨k / 128,ys++[(by_:Int)],A5,c5,by go_num,by rw[hyl5],?_,by rw[hyl5];exact Hg5.out,by rw[List.append_assoc];have:=Hl.out;rw[Hsv.out] at this;exact this,by omega⟩;rw[hyl5];have:=Hown5.out;rw[show U8 ys++[.int .u8 (by_:Int)]=U8 (ys++[(by_:Int)]) by simp] at this;exact this
    case measure=>simp[intOf];omega
theorem own_pos' {w:World} {base:Nat} {e:TypeId} {size:Nat} {A:Option Addr} {n c:Nat} {xs:List Value} (h:w.ownsRow base e size (.slice A n c) n xs) (hn:0<n):∃g,A=some ⟨g,0,none⟩∧base≤g:=by
 rcases h.2 with⟨h1,h0⟩|⟨g,cap,_,h1,hb,_⟩
 ·omega
 ·injection h1 with h1
  exact⟨g,h1,hb⟩
theorem own_cell' {w:World} {base:Nat} {e:TypeId} {size:Nat} {g n c:Nat} {xs:List Value} (h:w.ownsRow base e size (.slice (some ⟨g,0,none⟩) n c) n xs) {i:Nat} {u:Value} (hi:xs[i]?=some u):w.cell? ((⟨g,0,none⟩:Addr).add i)=some u:=by
 exact h.cells (g:=g) rfl i u hi
end
section
open Go.RowKit
def I8 (l:List UInt8):List Int:=l.map (fun c=>(c.toNat:Int))
theorem I8_all (l:List UInt8):AllB (I8 l):=fun c hc=>by
 obtain⟨x,_,rfl⟩:=List.mem_map.1 hc;have:=x.toNat_lt;omega
theorem I8_len (l:List UInt8):(I8 l).length=l.length:=by simp[I8]
theorem aj.next {w:World} {S:Nat→Prop} {b o n c:Nat} {x:UInt8} {l:List UInt8} (h:aj bE w S (.slice (some ⟨b,o,none⟩) n c) (x::l)):aj bE w S (.slice (some ⟨b,o+1,none⟩) (n - 1) (c - 1)) l:=by
 obtain⟨A',c',hv,h1,h2,h3,h4⟩:=h
 cases hv
 obtain⟨b',o',hb,hS,hr⟩:=h4 (by simp);injection hb with hb
 injection hb with e1 e2
 subst e1 e2;refine⟨some ⟨b,o+1,none⟩,c - 1,by simp,by simp at h1;omega,by omega,by simp[bE] at h3 ⊢;omega,fun _=>⟨b,o+1,rfl,hS,fun j y hy=>?_⟩⟩;obtain⟨cs,g1,g2,g3⟩:=hr (j+1) y (by simpa using hy);refine⟨cs,g1,g2,fun k u hu=>?_⟩;have:=g3 k u hu;simp only[bE,Nat.mul_one] at this ⊢;rw[←this];congr 2
 omega
theorem aj.none_left {w:World} {S:Nat→Prop} {A:Option Addr} {c:Nat} (hc:c≤maxLen):aj bE w S (.slice A 0 c) []:=⟨A,c,rfl,Nat.zero_le _,hc,Nat.zero_le _,fun h=>absurd rfl h⟩
theorem aj.is_slice {α:Type} {E:El α} {w:World} {S:Nat→Prop} {v:Value} {xs:List α} (h:aj E w S v xs):∃A c,v= .slice A xs.length c:=by
 obtain⟨A,c,hv,_⟩:=h;exact⟨A,c,hv⟩
structure Only (g:Nat) (w w':World):Prop where
 os:w'.os=w.os
 tape:w'.tape=w.tape
 output:w'.output=w.output
 size:w.heap.size≤w'.heap.size
 block:∀b,b<w.heap.size→b≠g→w'.heap[b]?=w.heap[b]?
theorem Only.refl (g:Nat) (w:World):Only g w w:=⟨rfl,rfl,rfl,Nat.le_refl _,fun _ _ _=>rfl⟩
theorem Only.trans {g:Nat} {w w' w2:World} (h:Only g w w') (h':Only g w' w2):Only g w w2:=
 ⟨h'.os.trans h.os,h'.tape.trans h.tape,h'.output.trans h.output,Nat.le_trans h.size h'.size,fun b hb hne=>(h'.block b (Nat.lt_of_lt_of_le hb h.size) hne).trans (h.block b hb hne)⟩
theorem Only.set {g:Nat} {w w':World} (h:Only g w w') (k:Nat) (u:Value):Only g w (w'.setCell ⟨g,k,none⟩ u):=
 ⟨h.os,h.tape,h.output,by simpa using h.size,fun b hb hne=>(Below.heap_setCell _ _ _ _ hne).trans (h.block b hb hne)⟩
theorem Only.drew {g:Nat} {w w':World} (h:Only g w w'):Only g w w'.drew:=⟨h.os,h.tape,h.output,h.size,h.block⟩
theorem Only.rd {g:Nat} {w w':World} (h:Only g w w') {S:Nat→Prop} (hg:¬S g) {v:Value} {l:List UInt8} (hr:aj bE w S v l):aj bE w' S v l:=
 hr.keep (by decide) (fun b hb hS=>⟨hS,h.block b hb (fun e=>hg (e ▸ hS))⟩)
theorem St.only {B:Nat} {w0 w w':World} {R:List Res} (h:St B w0 w R) (i:Nat) {g:Nat} {cs cs':Array Value} {t:TypeId} (hi:R[i]?=some (.blk g cs t)) (ho:Only g w w') (hb:w'.heap[g]?=some (.cells cs' t (0,0))):
  St B w0 w' (R.set i (.blk g cs' t))∧au w R w' (R.set i (.blk g cs' t)):=
 h.turn i hi (.blk g cs' t) ho.size ho.os ho.tape ho.output (fun b hb hne=>ho.block b hb (fun e=>hne e)) hb (fun _ hb=> .inl hb)
theorem St.onlyAt {g:Nat} {w0 w:World} {cs0:Array Value} {t0:TypeId} {R:List Res} (h:St g w0 w R) (k:au w0 [.blk g cs0 t0] w R):Only g w0 w:=
 ⟨h.below.os,h.below.tape,h.below.output,h.below.size,fun b hb hne=>(k b hb (fun r hr hf=>by
  rcases List.mem_singleton.1 hr with rfl
  exact hne hf)).2⟩
theorem St.startAt {g:Nat} {w:World} {cs:Array Value} {t:TypeId} (h:w.heap[g]?=some (.cells cs t (0,0))):St g w w [.blk g cs t]:=
 ⟨Below.refl _ _,fun r hr=>by
  rcases List.mem_singleton.1 hr with rfl
  exact h,fun r hr b hb=>by
  rcases List.mem_singleton.1 hr with rfl
  have e:b=g:=hb;subst e;exact⟨Nat.le_refl _,(Array.getElem?_eq_some_iff.1 h).1⟩,List.pairwise_singleton _ _,Nat.le_of_lt (Array.getElem?_eq_some_iff.1 h).1⟩
end
section
open Go.RowKit
def pgE:El (List Ins):=slE eQ (by decide)
def okL (r:Except Int (List (List Ins))):List (List Ins):=match r with| .ok ps=>ps| .error _=>[]
def errL (r:Except Int (List (List Ins))):Int:=match r with| .ok _=>0| .error e=>e
def endD (r:Except Int (List (List Ins)×List Int)):Except Int (List (List Ins)):=match r with
 | .error e=> .error e
 | .ok (ps,t)=>if t≠[] then .error 4 else if bT ps≠0 then .error (bT ps) else .ok ps
theorem endD_more (ps:List (List Ins)) (x:UInt8) (l:List UInt8):endD (.ok (ps,I8 (x::l)))= .error 4:=by simp[endD,I8]
theorem endD_ok {ps:List (List Ins)} (h:bT ps=0):endD (.ok (ps,I8 []))= .ok ps:=by simp[endD,I8,h]
theorem endD_bad {ps:List (List Ins)} {f:Int} (h:bT ps=f) (h0:f≠0):endD (.ok (ps,I8 []))= .error f:=by simp[endD,I8,h,h0]
theorem prog_big {l:List UInt8} (h:5000<l.length):progD (I8 l)= .error 1:=by unfold progD;rw[if_pos (by rw[I8_len];exact h)]
theorem prog_zero:progD (I8 [])= .error 5:=rfl
theorem prog_one {x:UInt8}:progD (I8 [x])= .error 5:=rfl
theorem prog_two:progD (I8 [116,119])= .error 5:=rfl
theorem prog_sign {x y:UInt8} {l:List UInt8} (hl:¬5000<(x::y::l).length) (h:(x.toNat:Int)≠116∨(y.toNat:Int)≠119):progD (I8 (x::y::l))= .error 4:=by
 unfold progD;rw[if_neg (by rw[I8_len];exact hl)];simp only[I8,List.map_cons];rw[if_pos h]
theorem sign_is {x y:UInt8} (h:¬((x.toNat:Int)≠116∨(y.toNat:Int)≠119)):x=116∧y=119:=by
 refine⟨UInt8.toNat_inj.1 ?_,UInt8.toNat_inj.1 ?_⟩
 ·show x.toNat=116;omega
 ·show y.toNat=119;omega
theorem prog_kinds {n:UInt8} {l:List UInt8} {r:Except Int (List (List Ins)×List Int)} (hl:¬5000<(116::119::n::l).length) (h:kindsD n.toNat (I8 l)=r):progD (I8 (116::119::n::l))=endD r:=by
 unfold progD;rw[if_neg (by rw[I8_len];exact hl)];show(if((116:Int)≠116∨(119:Int)≠119) then _ else restD ((n.toNat:Int)::I8 l))=_
 rw[if_neg (by decide)];unfold restD;simp only[Int.toNat_natCast,h];rcases r with _|⟨ps,t⟩<;>rfl
end
end
end Go.Proofs.YtdmocjnjbihloaaDoor
