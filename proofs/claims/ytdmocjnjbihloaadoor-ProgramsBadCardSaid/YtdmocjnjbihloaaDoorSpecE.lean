/- The data of the program as plain Lean types: values, objects, heaps, instructions, actors, worlds, acts. No condition; nothing here speaks of a run. What the heap's calls compute, as plain Lean functions. No condition; nothing here speaks of a run. What values lead to: the order in which it is come to, told once for both ways of reckoning it. Plain Lean; no run. Plain laws of what values lead to: it is closed, it begins with what comes first, and holds what the values name. No condition. What a program's check answers, as plain functions of plain data. No condition; nothing here speaks of a run. The bytes of a program, as plain numbers. No condition; nothing here speaks of a run. -/
namespace Go.Proofs.YtdmocjnjbihloaaDoor
section
universe u
theorem zA {α:Type u} (l:List α) (i:Nat) (a:α):l.toArray.setIfInBounds i a=(l.set i a).toArray:=List.setIfInBounds_toArray l i a
theorem zB {α:Type u} {x:α} {xs:List α} {a:α}:(x::xs).set 0 a=a::xs:=rfl
theorem zC {α:Type u} {x:α} {xs:List α} {i:Nat} {a:α}:(x::xs).set (i+1) a=x::xs.set i a:=rfl
theorem zD {α:Type u} {l:List α} {i:Nat} (h:i<l.length):l[i]?=some l[i]:=List.getElem?_eq_getElem h
theorem zE {α:Type u} {i:Nat} {a:α} {l:List α}:l[i]?=some a↔∃h:i<l.length,l[i]=a:=List.getElem?_eq_some_iff
theorem zF {α:Type u} {l:List α} {i:Nat} {a:α} (h:l[i]?=some a):a∈l:=List.mem_of_getElem? h
end
section
structure V where
 k:Int
 n:Int
structure Ob where
 fields:List V
 dead:Bool
structure Hp where
 most:Int
 ah:List Ob
structure Ins where
 op:Int
 a:Int
 b:Int
 n:Int
structure Ac where
 kind:Int
 parent:Int
 heap:Hp
 regs:List V
 pc:Int
 box:List V
 fin:Int
structure Td where
 cK:Int
 n:Int
structure Wd where
 aa:List Ac
 prints:List Td
structure ig where
 kind:Int
 cK:Int
 n:Int
 m:Int
structure Rw where
 kind:Int
 a:Int
 b:Int
 c:Int
theorem V.same {x y:V}:x=y↔x.k=y.k∧x.n=y.n:=by
 cases x;cases y;simp
theorem Ob.same {x y:Ob}:x=y↔x.fields=y.fields∧x.dead=y.dead:=by
 cases x;cases y;simp
theorem Hp.same {x y:Hp}:x=y↔x.most=y.most∧x.ah=y.ah:=by
 cases x;cases y;simp
theorem Ins.same {x y:Ins}:x=y↔x.op=y.op∧x.a=y.a∧x.b=y.b∧x.n=y.n:=by
 cases x;cases y;simp
theorem Ac.same {x y:Ac}:x=y↔x.kind=y.kind∧x.parent=y.parent∧x.heap=y.heap∧x.regs=y.regs∧x.pc=y.pc∧x.box=y.box∧x.fin=y.fin:=by
 cases x;cases y;simp
theorem Td.same {x y:Td}:x=y↔x.cK=y.cK∧x.n=y.n:=by
 cases x;cases y;simp
theorem Wd.same {x y:Wd}:x=y↔x.aa=y.aa∧x.prints=y.prints:=by
 cases x;cases y;simp
theorem ig.same {x y:ig}:x=y↔x.kind=y.kind∧x.cK=y.cK∧x.n=y.n∧x.m=y.m:=by
 cases x;cases y;simp
instance:DecidableEq V:=fun _ _=>decidable_of_iff _ V.same.symm
instance:DecidableEq Ob:=fun _ _=>decidable_of_iff _ Ob.same.symm
instance:DecidableEq Hp:=fun _ _=>decidable_of_iff _ Hp.same.symm
instance:DecidableEq Ins:=fun _ _=>decidable_of_iff _ Ins.same.symm
instance:DecidableEq Ac:=fun _ _=>decidable_of_iff _ Ac.same.symm
instance:DecidableEq Td:=fun _ _=>decidable_of_iff _ Td.same.symm
instance:DecidableEq Wd:=fun _ _=>decidable_of_iff _ Wd.same.symm
instance:DecidableEq ig:=fun _ _=>decidable_of_iff _ ig.same.symm
end
section
def aY (n:Int):Bool:=decide (-1099511627776≤n)&&decide (n≤1099511627776)
def fU (n:Nat) (v:V):Bool:=
 if v.k=0 then v.n==0 else if v.k=1 then aY v.n else if v.k=2 then decide (0≤v.n)&&decide (v.n<n) else false
def obB (n:Nat) (o:Ob):Bool:=decide (o.fields.length≤4)&&o.fields.all (fU n)&&(o.dead !=decide (0<o.fields.length))
def limB (h:Hp):Bool:=decide (0≤h.most)&&decide (h.most≤60)&&decide ((h.ah.length:Int)≤h.most)
def hpB (h:Hp) (roots:List V):Bool:=limB h&&h.ah.all (obB h.ah.length)&&roots.all (fU h.ah.length)
end
section
section
def fieldsOf (os:List Ob) (n:Int):List V:=match os[n.toNat]? with|some o=>o.fields|none=>[]
def fresh (out:List Int) (v:V):Bool:=decide (v.k=2)&& !decide (v.n∈out)
def come:List Int→List V→List Int
 |out,[]=>out
 |out,v::l=>if fresh out v then come (out++[v.n]) l else come out l
inductive Led (os:List Ob):List V→List Int→List Int→Prop
 |done (out:List Int):Led os [] out out
 |new {v:V} {q:List V} {out r:List Int}:fresh out v=true→Led os (q++fieldsOf os v.n) (out++[v.n]) r→Led os (v::q) out r
 |old {v:V} {q:List V} {out r:List Int}:fresh out v=false→Led os q out r→Led os (v::q) out r
theorem Led.one {os:List Ob} {q:List V} {out r r':List Int} (h:Led os q out r) (h':Led os q out r'):r=r':=by
 induction h with
 |done=>cases h';rfl
 |new hf _ ih=>
  cases h' with
  |new _ h'=>exact ih h'
  |old hf' _=>rw[hf] at hf';cases hf'
 |old hf _ ih=>
  cases h' with
  |new hf' _=>rw[hf] at hf';cases hf'
  |old _ h'=>exact ih h'
def jV (os:List Ob) (l:List Int):List V:=(l.map (fieldsOf os)).flatten
theorem qU (os:List Ob) (l l':List Int):jV os (l++l')=jV os l++jV os l':=by simp[jV]
theorem pg:∀(l:List V) (out:List Int),∃nw,come out l=out++nw
 | [],out=>⟨[],by simp[come]⟩
 |v::l,out=>by
  simp only[come];split
  ·obtain⟨nw,h⟩:=pg l (out++[v.n]);exact⟨v.n::nw,by rw[h];simp⟩
  ·exact pg l out
theorem rR:∀(l:List V) (out:List Int) (x:V),come out (l++[x])=if fresh (come out l) x then come out l++[x.n] else come out l
 | [],out,x=>rfl
 |v::l,out,x=>by
  simp only[List.cons_append,come];split
  ·exact rR l _ x
  ·exact rR l _ x
theorem come_take {l:List V} {k:Nat} {x:V} (out:List Int) (h:l[k]?=some x):come out (l.take (k+1))=if fresh (come out (l.take k)) x then come out (l.take k)++[x.n] else come out (l.take k):=by
 rw[List.take_add_one,h];exact rR _ _ _
theorem Led.row {os:List Ob}:∀{l rest:List V} {out nw r:List Int},come out l=out++nw→Led os (rest++jV os nw) (out++nw) r→Led os (l++rest) out r
 | [],rest,out,nw,r,hc,h=>by
  have:nw= []:=(by simpa[come] using hc);subst this;simpa[jV] using h
 |v::l,rest,out,nw,r,hc,h=>by
  simp only[come] at hc;split at hc
  ·rename_i hf
   obtain⟨nw',hn⟩:=pg l (out++[v.n]);have he:nw=v.n::nw':=by
    rw[hn,List.append_assoc] at hc;exact(List.append_cancel_left hc).symm
   subst he;refine Led.new hf ?_;have:=Led.row (os:=os) (l:=l) (rest:=rest++fieldsOf os v.n) (out:=out++[v.n]) (nw:=nw') (r:=r) hn (by
    have e1:jV os (v.n::nw')=fieldsOf os v.n++jV os nw':=(by simp[jV]);rw[e1] at h;simpa[List.append_assoc] using h)
   simpa[List.append_assoc] using this
  ·rename_i hf
   exact Led.old (by simpa using hf) (Led.row hc h)
structure Told (n:Nat) (out:List Int):Prop where
 nodup:out.Nodup
 within:∀i∈out,0≤i∧i<n
theorem Told.nil {n:Nat}:Told n []:=⟨List.nodup_nil,fun i h=>by cases h⟩
theorem Told.snoc {n:Nat} {out:List Int} {i:Int} (h:Told n out) (h0:0≤i) (h1:i<n) (hi:i∉out):Told n (out++[i]):=
 ⟨List.nodup_append.2 ⟨h.nodup,by simp,by
   intro a ha b hb;simp at hb
   subst hb;exact fun e=>hi (e ▸ ha)⟩,fun j hj=>by
  rcases List.mem_append.1 hj with hj|hj
  ·exact h.within j hj
  ·simp at hj;subst hj;exact⟨h0,h1⟩⟩
def kH (n:Nat) (l:List V):Prop:=∀v∈l,v.k=2→0≤v.n∧v.n<n
theorem Told.come {n:Nat}:∀{l:List V} {out:List Int},Told n out→kH n l→Told n (come out l)
 | [],_,h,_=>h
 |v::l,out,h,hr=>by
  simp only[Go.Proofs.YtdmocjnjbihloaaDoor.come];split
  ·rename_i hf
   simp[fresh] at hf
   have:=hr v (by simp) hf.1;exact(h.snoc this.1 this.2 hf.2).come (fun x hx=>hr x (by simp[hx]))
  ·exact h.come (fun x hx=>hr x (by simp[hx]))
theorem len_le:∀{n:Nat} {l:List Nat},l.Nodup→(∀x∈l,x<n)→l.length≤n
 |0,l,_,h=>by
  cases l with
  |nil=>simp
  |cons a l=>have:=h a (by simp);omega
 |n+1,l,hd,h=>by
  have h1:=len_le (n:=n) (hd.erase n) (fun x hx=>by
   rw[hd.mem_erase_iff] at hx;have:=h x hx.2;have:=hx.1;omega)
  by_cases hm:n∈l
  ·rw[List.length_erase_of_mem hm] at h1;omega
  ·rw[List.erase_of_not_mem hm] at h1;omega
theorem Told.len {n:Nat} {out:List Int} (h:Told n out):out.length≤n:=by
 have h1:(out.map Int.toNat).Nodup:=by
  refine List.pairwise_map.2 (h.nodup.imp_of_mem ?_);intro a b ha hb hab e;have:=h.within a ha;have:=h.within b hb;omega
 have:=len_le (n:=n) h1 (fun x hx=>by
  obtain⟨i,hi,rfl⟩:=List.mem_map.1 hx;have:=h.within i hi;omega)
 simpa using this
theorem oV {n:Nat} {os:List Ob} (h:∀o∈os,kH n o.fields) (i:Int):kH n (fieldsOf os i):=by
 unfold fieldsOf;split
 ·rename_i o ho
  exact h o (List.mem_of_getElem? ho)
 ·exact fun v hv=>by cases hv
open Classical in
noncomputable def ay (os:List Ob) (roots:List V):List Int:=if h:∃l,Led os roots [] l then h.choose else []
theorem dM {os:List Ob} {roots:List V} {l:List Int} (h:Led os roots [] l):ay os roots=l:=by
 have hx:∃l,Led os roots [] l:=⟨l,h⟩;unfold ay;rw[dif_pos hx];exact hx.choose_spec.one h
end
section
theorem Led.pre {os:List Ob} {q:List V} {out r:List Int} (h:Led os q out r):∃nw,r=out++nw:=by
 induction h with
 |done out=>exact⟨[],by simp⟩
 | @new v q out r hf _ ih=>obtain⟨nw,h⟩:=ih;exact⟨v.n::nw,by rw[h];simp⟩
 |old hf _ ih=>exact ih
theorem Led.sub {os:List Ob} {q:List V} {out r:List Int} (h:Led os q out r) {n:Int} (hn:n∈out):n∈r:=by
 obtain⟨nw,rfl⟩:=h.pre;exact List.mem_append_left _ hn
theorem oI {out:List Int} {v:V} (h:fresh out v=false) (hk:v.k=2):v.n∈out:=by
 simpa[fresh,hk] using h
theorem Led.roots {os:List Ob} {q:List V} {out r:List Int} (h:Led os q out r):∀v∈q,v.k=2→v.n∈r:=by
 induction h with
 |done out=>intro v hv;cases hv
 | @new v q out r hf h ih=>
  intro x hx hk;rcases List.mem_cons.1 hx with rfl|hx
  ·exact h.sub (by simp)
  ·exact ih x (List.mem_append_left _ hx) hk
 | @old v q out r hf h ih=>
  intro x hx hk;rcases List.mem_cons.1 hx with rfl|hx
  ·exact h.sub (oI hf hk)
  ·exact ih x hx hk
theorem Led.closed {os:List Ob} {q:List V} {out r:List Int} (h:Led os q out r) (hc:∀n∈out,∀v∈fieldsOf os n,v.k=2→v.n∈out∨v∈q):
  ∀n∈r,∀v∈fieldsOf os n,v.k=2→v.n∈r:=by
 induction h with
 |done out=>
  intro n hn v hv hk;rcases hc n hn v hv hk with h|h
  ·exact h
  ·cases h
 | @new v q out r hf h ih=>
  refine ih (fun n hn x hx hk=>?_);rcases List.mem_append.1 hn with hn|hn
  ·rcases hc n hn x hx hk with h|h
   ·exact .inl (List.mem_append_left _ h)
   ·rcases List.mem_cons.1 h with rfl|h
    ·exact .inl (by simp)
    ·exact .inr (List.mem_append_left _ h)
  ·simp at hn
   subst hn;exact .inr (List.mem_append_right _ hx)
 | @old v q out r hf h ih=>
  refine ih (fun n hn x hx hk=>?_);rcases hc n hn x hx hk with h|h
  ·exact .inl h
  ·rcases List.mem_cons.1 h with rfl|h
   ·exact .inl (oI hf hk)
   ·exact .inr h
theorem Led.shut {os:List Ob} {q:List V} {r:List Int} (h:Led os q [] r):∀n∈r,∀v∈fieldsOf os n,v.k=2→v.n∈r:=h.closed (fun _ hn=>by cases hn)
theorem Led.first {os:List Ob} {v:V} {q:List V} {r:List Int} (h:Led os (v::q) [] r) (hk:v.k=2):r[0]?=some v.n:=by
 cases h with
 |new hf h=>
  obtain⟨nw,rfl⟩:=h.pre;simp
 |old hf h=>exact absurd (oI hf hk) (by simp)
theorem Told.sizes {n:Nat} {out:List Int} {i:Int} (h:Told n (out++[i])):out.length<n:=by
 have:=h.len;simp at this
 omega
theorem led_ex {os:List Ob} {n:Nat} (hf:∀o∈os,kH n o.fields):∀(k:Nat) (q:List V) (out:List Int),Told n out→kH n q→n - out.length≤k→∃r,Led os q out r∧Told n r
 |k,[],out,ht,_,_=>⟨out,.done out,ht⟩
 |k,v::q,out,ht,hq,hk=>by
  by_cases hfr:fresh out v=true
  ·have h2:=hfr;simp[fresh] at h2
   have hv:=hq v (by simp) h2.1;have ht':=ht.snoc hv.1 hv.2 h2.2;have hs:=ht'.sizes;match k,hk with
   |0,hk=>omega
   |k+1,hk=>
    obtain⟨r,hr,htr⟩:=led_ex hf k (q++fieldsOf os v.n) (out++[v.n]) ht' (fun x hx h=>by
     rcases List.mem_append.1 hx with hx|hx
     ·exact hq x (by simp[hx]) h
     ·exact oV hf _ x hx h) (by simp;omega)
    exact⟨r,.new hfr hr,htr⟩
  ·have hfr':fresh out v=false:=(by simpa using hfr);obtain⟨r,hr,htr⟩:=led_ex hf k q out ht (fun x hx=>hq x (by simp[hx])) hk;exact⟨r,.old hfr' hr,htr⟩
 termination_by k q=>(k,q.length)
end
end
section
def usesT:List Int:=[0,5,3,3,3,5,4,5,7,7,7,7,3,3,3,1,1,7,1,0]
def aB (op:Int):Bool:=op !=0&&op !=6&&op !=19
def bB (op:Int):Bool:=(decide (2≤op)&&decide (op≤4))||(decide (8≤op)&&decide (op≤14))||op==17
def nB (op:Int):Bool:=op==1||(decide (5≤op)&&decide (op≤11))||op==17
def lowN (op:Int):Int:=if op=1 then -1099511627776 else if op=5∨op=6 then -60 else if op=7 then 1 else 0
def ov (op:Int):Int:=if op=1 then 1099511627776 else if op=5∨op=6 then 60 else if op=7 then 4 else if 8≤op∧op≤11 then 3 else if op=17 then 5 else 0
def insF (kinds len at_:Int) (i:Ins):Int:=
 if i.op<0∨19<i.op then 3 else
 if i.a<0∨8≤i.a∨i.b<0∨8≤i.b∨i.n<lowN i.op∨ov i.op<i.n then 2 else
 if(aB i.op=false∧i.a≠0)∨(bB i.op=false∧i.b≠0) then 4 else
 if(i.op=5∨i.op=6)∧(at_+i.n<0∨len≤at_+i.n) then 2 else
 if i.op=17∧kinds≤i.n then 2 else
 if at_=len - 1∧i.op≠0∧i.op≠19∧i.op≠6 then 5 else 0
def gp:List Int→Int
 | []=>0
 |e::r=>if e=0 then gp r else e
def rowF (kinds:Int) (l:List Ins):List Int:=l.mapIdx fun at_ i=>insF kinds l.length at_ i
def codeF (kinds:Int) (l:List Ins):Int:=if l.length=0∨60<l.length then 1 else gp (rowF kinds l)
def bT (p:List (List Ins)):Int:=if p.length=0 then 6 else if 6<p.length then 1 else gp (p.map (codeF p.length))
theorem sP {xs:List Int} {k:Nat} (hx:xs[k]?=some 0) (h:gp (xs.take k)=0):gp (xs.take (k+1))=0:=by
 rw[List.take_add_one,hx];generalize xs.take k=l at h;induction l with
 |nil=>simp[gp]
 |cons e l ih=>
  simp only[gp] at h ⊢;by_cases he:e=0
  ·simp[he] at h;simpa[gp,he] using ih h
  ·simp[he] at h
theorem rP {e:Int} (he:e≠0):∀{xs:List Int} {k:Nat},xs[k]?=some e→gp (xs.take k)=0→gp xs=e
 | [],k,hx,_=>by simp at hx
 |x::xs,0,hx,_=>by simp at hx;subst hx;simp[gp,he]
 |x::xs,k+1,hx,h=>by
  simp only[List.take_succ_cons,gp] at h;by_cases h0:x=0
  ·simp only[h0,if_true] at h;simp only[gp,h0,if_true];exact rP he (by simpa using hx) h
  ·simp[h0] at h
theorem qJ {kinds:Int} {l:List Ins} {k:Nat} {i:Ins} (h:l[k]?=some i):(rowF kinds l)[k]?=some (insF kinds l.length k i):=by
 simp[rowF,h]
theorem kinds_at {n:Int} {p:List (List Ins)} {k:Nat} {l:List Ins} (h:p[k]?=some l):(p.map (codeF n))[k]?=some (codeF n l):=by
 simp[h]
theorem rowF_len {kinds:Int} {l:List Ins}:(rowF kinds l).length=l.length:=by simp[rowF]
theorem op_cases {op:Int} (h:¬(op<0∨19<op)):op=0∨op=1∨op=2∨op=3∨op=4∨op=5∨op=6∨op=7∨op=8∨op=9∨op=10∨op=11∨op=12∨op=13∨op=14∨op=15∨op=16∨op=17∨op=18∨op=19:=by omega
def nMayB (i:Ins) (at_ many kinds:Int):Bool:=
 if i.op=1 then decide (-1099511627776≤i.n)&&decide (i.n≤1099511627776)
 else if i.op=5∨i.op=6 then(decide (-60≤i.n)&&decide (i.n≤60))&&(decide (0≤at_+i.n)&&decide (at_+i.n≤many - 1))
 else if i.op=7 then decide (1≤i.n)&&decide (i.n≤4)
 else if 8≤i.op∧i.op≤11 then decide (0≤i.n)&&decide (i.n≤3)
 else if i.op=17 then decide (0≤i.n)&&decide (i.n≤kinds - 1)
 else i.n==0
def farN (i:Ins):Bool:=i.op==5||i.op==6||i.op==17
def refF (kinds len at_:Int) (i:Ins):Int:=
 if i.op<0∨19<i.op then 3 else
 if farN i=true∧((i.n< -60∨60<i.n)∨(i.op=17∧(i.n<0∨5<i.n))) then 2 else
 if(i.a<0∨7<i.a)∨(i.b<0∨7<i.b)∨nMayB ⟨i.op,i.a,i.b,if farN i then 0 else i.n⟩ 0 1 1=false then 2 else
 if(aB i.op=false∧i.a≠0)∨(bB i.op=false∧i.b≠0) then 4 else
 if nMayB i at_ len kinds=false then 2 else
 if at_+1=len∧i.op≠0∧i.op≠19∧i.op≠6 then 5 else 0
theorem refF_eq {kinds len at_:Int} {i:Ins}:refF kinds len at_ i=insF kinds len at_ i:=by
 obtain⟨op,a,b,n⟩:=i;unfold refF insF;dsimp only;by_cases h:op<0∨19<op
 ·rw[if_pos h,if_pos h]
 rw[if_neg h,if_neg h];have hl:(at_+1=len)↔(at_=len - 1):=(by omega);rcases op_cases h with rfl|rfl|rfl|rfl|rfl|rfl|rfl|rfl|rfl|rfl|rfl|rfl|rfl|rfl|rfl|rfl|rfl|rfl|rfl|rfl
 all_goals
  simp only[nMayB,farN,lowN,ov,aB,bB,hl];simp
  repeat' split
 all_goals (first|rfl|omega)
theorem uses_and {op:Int} (h:¬(op<0∨19<op)):∃u:Int,usesT[op.toNat]?=some u∧0≤u∧u≤7∧(u % 2=0↔aB op=false)∧(u / 2 % 2=0↔bB op=false)∧(u / 4=0↔nB op=false):=by
 rcases op_cases h with rfl|rfl|rfl|rfl|rfl|rfl|rfl|rfl|rfl|rfl|rfl|rfl|rfl|rfl|rfl|rfl|rfl|rfl|rfl|rfl<;>exact⟨_,rfl,by decide,by decide,by decide,by decide,by decide⟩
end
section
def sev (n:Nat):List Int:=if _h:n<128 then [(n:Int)] else((128+n % 128:Nat):Int)::sev (n / 128)
 termination_by n
 decreasing_by omega
def zz (n:Int):Nat:=if n<0 then(-2*n - 1).toNat else(2*n).toNat
def insB (i:Ins):List Int:=i.op::((if aB i.op then [i.a+8*i.b] else [])++(if nB i.op then sev (zz i.n) else []))
def codeB (l:List Ins):List Int:=(l.length:Int)::(l.map insB).flatten
def progB (ps:List (List Ins)):List Int:=[116,119,(ps.length:Int)]++(ps.map codeB).flatten
theorem sev_lt {n:Nat} (h:n<128):sev n= [(n:Int)]:=by rw[sev,dif_pos h]
theorem sev_ge {n:Nat} (h:¬n<128):sev n=((128+n % 128:Nat):Int)::sev (n / 128):=by rw[sev,dif_neg h]
theorem sev_len (k:Nat):∀n:Nat,n<128 ^ (k+1)→(sev n).length≤k+1:=by
 induction k with
 |zero=>intro n h;rw[sev_lt (by simpa using h)];simp
 |succ k ih=>
  intro n h;by_cases h1:n<128
  ·rw[sev_lt h1];simp
  ·rw[sev_ge h1];have:=ih (n / 128) (by rw[Nat.div_lt_iff_lt_mul (by omega)];rw[Nat.pow_succ] at h;exact h);simpa using this
theorem zz_le {n:Int} (h: -1099511627776≤n∧n≤1099511627776):zz n≤2199023255552:=by
 unfold zz;split<;>omega
theorem sev_six {n:Int} (h: -1099511627776≤n∧n≤1099511627776):(sev (zz n)).length≤6:=by
 have:=zz_le h;exact sev_len 5 _ (by omega)
theorem insB_len {i:Ins} (h: -1099511627776≤i.n∧i.n≤1099511627776):(insB i).length≤8:=by
 have:=sev_six h;unfold insB;simp only[List.length_cons,List.length_append];split<;>split<;>simp<;>omega
theorem ik:∀{xs:List Int},gp xs=0→∀e∈xs,e=0
 | [],_,e,he=>by cases he
 |x::xs,h,e,he=>by
  simp only[gp] at h;by_cases hx:x=0
  ·simp only[hx,if_true] at h;rcases List.mem_cons.1 he with rfl|he
   ·exact hx
   ·exact ik h e he
  ·simp[hx] at h
structure InsOk (i:Ins):Prop where
 op:0≤i.op∧i.op≤19
 a:0≤i.a∧i.a≤7
 b:0≤i.b∧i.b≤7
 n: -1099511627776≤i.n∧i.n≤1099511627776
theorem insF_ok {kinds len at_:Int} {i:Ins} (h:insF kinds len at_ i=0):InsOk i:=by
 unfold insF at h;split at h
 ·cases h
 rename_i h1
 split at h
 ·cases h
 rename_i h2
 have hlo: -1099511627776≤lowN i.op:=by unfold lowN;repeat' split<;>omega
 have hhi:ov i.op≤1099511627776:=by unfold ov;repeat' split<;>omega
 exact⟨by omega,by omega,by omega,by omega⟩
theorem qV {ps:List (List Ins)} (h:bT ps=0):ps.length≠0∧ps.length≤6∧∀l∈ps,l.length≠0∧l.length≤60∧∀i∈l,InsOk i:=by
 unfold bT at h;split at h
 ·cases h
 rename_i h0
 split at h
 ·cases h
 rename_i h6
 refine⟨h0,by omega,fun l hl=>?_⟩;have hc:codeF ps.length l=0:=ik h _ (List.mem_map.2 ⟨l,hl,rfl⟩);unfold codeF at hc;split at hc
 ·cases hc
 rename_i hl'
 refine⟨by omega,by omega,fun i hi=>?_⟩;obtain⟨k,hk⟩:=List.getElem?_of_mem hi;have:=ik hc _ (List.mem_of_getElem? (qJ hk));exact insF_ok this
end
end Go.Proofs.YtdmocjnjbihloaaDoor
