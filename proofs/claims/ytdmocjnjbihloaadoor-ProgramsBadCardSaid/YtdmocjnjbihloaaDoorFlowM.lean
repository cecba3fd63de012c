/- What is known of registers at each instruction, in plain Lean: a round, and the rounds till nothing is another thing; that they end. No condition; no run. The walk of verify.behind. Condition: registers are in their bounds. The walks of verify.right and verify.next. Condition: registers, the operator and places are in their bounds. What verify.flow holds in memory, told by the plain flow; which behaviors it is asked of. No condition; no run. -/
import Derived.Test.YtdmocjnjbihloaaDoorConcatV
import Derived.Test.YtdmocjnjbihloaaDoorSpecE
import Derived.Test.YtdmocjnjbihloaaDoorSt
import Derived.Deep.CutRange
import Derived.Test.YtdmocjnjbihloaaDoorSortI
namespace Go.Proofs.YtdmocjnjbihloaaDoor
section
open Go.RowKit
def at8 (k:List Int) (i:Int):Int:=k.getD i.toNat 0
def eF (k:List Int) (i:Ins):List Int:=
 if i.op=1∨i.op=2∨i.op=3∨i.op=4∨i.op=8∨i.op=16 then k.set i.a.toNat 1
 else if i.op=7 then k.set i.a.toNat 3
 else if i.op=10 then(k.set i.b.toNat 2).set i.a.toNat 2
 else if i.op=11 then(if i.a=i.b∨at8 k i.b=2 then k.set i.a.toNat 2 else k.set i.b.toNat 0)
 else if i.op=12 then(if at8 k i.b=3 then k.set i.b.toNat 0 else k).set i.a.toNat (at8 k i.b)
 else if i.op=13∨i.op=18 then k.set i.a.toNat 0
 else if i.op=17 then(k.set i.b.toNat 0).set i.a.toNat 1
 else k
def lZ (at_:Int) (i:Ins):List Int:=
 if i.op=0∨i.op=19 then [] else if i.op=6 then [at_+i.n] else if i.op=5 then [at_+1,at_+i.n] else [at_+1]
abbrev Kn:=List (List Int)×Bool
def stepT (k:List Int) (s:Kn) (t:Int):Kn:=
 match s.1[t.toNat]? with
 |none=>s
 |some []=>(s.1.set t.toNat k,true)
 |some (x::xs)=>(s.1.set t.toNat ((x::xs).zipWith eu k),s.2||decide ((x::xs).zipWith eu k≠x::xs))
def ny (l:List Ins) (s:Kn) (i:Nat):Kn:=
 match s.1[i]?,l[i]? with
 |some (x::xs),some o=>(lZ i o).foldl (stepT (eF (x::xs) o)) s
 |_,_=>s
def dW (l:List Ins) (st:List (List Int)):Nat→Kn
 |0=>(st,false)
 |k+1=>ny l (dW l st k) k
def iG (l:List Ins) (st:List (List Int)):Kn:=dW l st l.length
inductive jJ (l:List Ins):List (List Int)→List (List Int)→Prop where
 |done {st:List (List Int)} (h:(iG l st).2=false):jJ l st (iG l st).1
 |more {st r:List (List Int)} (h:(iG l st).2=true) (h':jJ l (iG l st).1 r):jJ l st r
theorem jJ.one {l:List Ins} {st r r':List (List Int)} (h:jJ l st r) (h':jJ l st r'):r=r':=by
 induction h with
 |done h=>cases h' with
  |done _=>rfl
  |more g _=>rw[h] at g;cases g
 |more h _ ih=>cases h' with
  |done g=>rw[h] at g;cases g
  |more _ g=>exact ih g
def gB (n:Nat):List (List Int):=[3,3,0,0,0,0,0,0]::List.replicate (n - 1) []
def rk (t:Int):Nat:=if t=3 then 2 else if t=0 then 0 else 1
def rkR (k:List Int):Nat:=if k= [] then 17 else(k.map rk).sum
def rkS (st:List (List Int)):Nat:=(st.map rkR).sum
theorem rk_le (t:Int):rk t≤2:=by unfold rk;split<;>(try split)<;>omega
theorem rk_join (a b:Int):rk (eu a b)≤rk a∧(eu a b≠a→rk (eu a b)<rk a):=by
 unfold eu;split
 ·simp
 ·rename_i hab
  split
  ·rename_i h
   simp[lv] at h
   rcases h.1 with rfl|rfl
   ·simp[rk]
   ·simp[rk]
  ·simp only[rk];by_cases h0:a=0
   ·subst h0;simp
   ·simp[h0]
    split<;>omega
theorem rk_zip:∀(a k:List Int),a.length=k.length→((a.zipWith eu k).map rk).sum≤(a.map rk).sum∧(a.zipWith eu k≠a→((a.zipWith eu k).map rk).sum<(a.map rk).sum)
 | [],[],_=>by simp
 |x::a,y::k,h=>by
  have ih:=rk_zip a k (by simpa using h);have h1:=rk_join x y;simp only[List.zipWith_cons_cons,List.map_cons,List.sum_cons,ne_eq,List.cons.injEq,not_and];refine⟨by omega,fun hne=>?_⟩;by_cases hx:eu x y=x
  ·have:=ih.2 (hne hx);omega
  ·have:=h1.2 hx;omega
theorem rk_row (k:List Int) (h:k.length=8):rkR k≤16:=by
 unfold rkR;match k,h with
 | [a,b,c,d,e,f,g,i],_=>
  simp
  have:=rk_le a;have:=rk_le b;have:=rk_le c;have:=rk_le d;have:=rk_le e;have:=rk_le f;have:=rk_le g;have:=rk_le i;omega
theorem sum_set:∀(l:List Nat) (i:Nat) (x:Nat) (h:i<l.length),(l.set i x).sum+l[i]=l.sum+x
 | [],_,_,h=>by simp at h
 |y::l,0,x,_=>by simp;omega
 |y::l,i+1,x,h=>by
  have:=sum_set l i x (by simpa using h);simp
  omega
theorem rk_set {st:List (List Int)} {t:Nat} {k k':List Int} (h:st[t]?=some k):rkS (st.set t k')+rkR k=rkS st+rkR k':=by
 obtain⟨hl,he⟩:=zE.1 h;unfold rkS;rw[List.map_set];have:=sum_set (st.map rkR) t (rkR k') (by simpa using hl);simpa[he] using this
def fM (st:List (List Int)):Prop:=∀k∈st,k= []∨k.length=8
theorem fM.set {st:List (List Int)} (h:fM st) {t:Nat} {k:List Int} (hk:k.length=8):fM (st.set t k):=fun x hx=>by
 rcases List.mem_or_eq_of_mem_set hx with h'|rfl
 ·exact h x h'
 ·exact .inr hk
theorem lN {k:List Int} {i:Ins}:(eF k i).length=k.length:=by
 unfold eF;(repeat' split)<;>simp
structure Down (s s':Kn):Prop where
 len:s'.1.length=s.1.length
 iR:fM s.1→fM s'.1
 le:fM s.1→rkS s'.1≤rkS s.1
 lt:fM s.1→s.2=false→s'.2=true→rkS s'.1<rkS s.1
 flag:s.2=true→s'.2=true
 same:s'.2=false→s'.1=s.1
theorem Down.refl (s:Kn):Down s s:=⟨rfl,id,fun _=>Nat.le_refl _,fun _ h h'=>by(rw[h] at h';cases h'),id,fun _=>rfl⟩
theorem Down.trans {s s' s2:Kn} (h:Down s s') (h':Down s' s2):Down s s2:=
 ⟨h'.len.trans h.len,fun e=>h'.iR (h.iR e),fun e=>Nat.le_trans (h'.le (h.iR e)) (h.le e),fun e hf ht=>by
  cases hs:s'.2
  ·exact Nat.lt_of_lt_of_le (h'.lt (h.iR e) hs ht) (h.le e)
  ·exact Nat.lt_of_le_of_lt (h'.le (h.iR e)) (h.lt e hf hs),fun hf=>h'.flag (h.flag hf),fun hf=>by
  have hs:s'.2=false:=by
   cases hs:s'.2
   ·rfl
   ·have:=h'.flag hs;rw[hf] at this;cases this
  rw[h'.same hf,h.same hs]⟩
theorem qw {k:List Int} (hk:k.length=8) (s:Kn) (t:Int):Down s (stepT k s t):=by
 unfold stepT;split
 ·exact .refl s
 ·rename_i h
  have hr:=rk_set (k':=k) h;have h8:=rk_row k hk;have h17:rkR []=17:=rfl;exact⟨by simp,fun e=>e.set hk,fun _=>by show rkS (s.1.set _ k)≤_;omega,fun _ _ _=>by show rkS (s.1.set _ k)<_;omega,fun _=>rfl,fun h=>by cases h⟩
 ·rename_i x xs h
  have hr:=rk_set (k':=(x::xs).zipWith eu k) h;have hlen:fM s.1→(x::xs).length=k.length:=fun e=>by
   rcases e _ (zF h) with h|h
   ·cases h
   ·rw[h,hk]
  have hz:fM s.1→rkR ((x::xs).zipWith eu k)≤rkR (x::xs)∧((x::xs).zipWith eu k≠x::xs→rkR ((x::xs).zipWith eu k)<rkR (x::xs)):=fun e=>by
   have h1:=rk_zip (x::xs) k (hlen e);have h2:(x::xs).zipWith eu k≠[]:=by
    have:=hlen e;match k,this with
    |y::k,_=>simp
   unfold rkR;rw[if_neg h2,if_neg (by simp)];exact h1
  refine⟨by simp,fun e=>e.set (by have:=hlen e;simp at this ⊢;omega),fun e=>by have:=(hz e).1;show rkS (s.1.set _ _)≤_;omega,fun e hf ht=>?_,fun hf=>by simp[hf],fun hf=>?_⟩
  ·simp[hf] at ht
   have:=(hz e).2 (by simpa using ht);show rkS (s.1.set _ _)<_
   omega
  ·simp only[Bool.or_eq_false_iff,decide_eq_false_iff_not,Decidable.not_not] at hf;show s.1.set t.toNat _=s.1
   rw[hf.2];obtain⟨hl,he⟩:=zE.1 h;rw[←he,List.set_getElem_self]
theorem nM {k:List Int} (hk:k.length=8):∀(l:List Int) (s:Kn),Down s (l.foldl (stepT k) s)
 | [],s=> .refl s
 |t::l,s=>(qw hk s t).trans (nM hk l _)
theorem ui {l:List Ins} {s:Kn} (he:fM s.1) (i:Nat):Down s (ny l s i):=by
 unfold ny;split
 ·rename_i x xs o h1 h2
  refine nM ?_ _ _;rw[lN];rcases he _ (zF h1) with h|h
  ·cases h
  ·exact h
 ·exact .refl s
theorem dz {l:List Ins} {st:List (List Int)} (he:fM st):∀k,Down (st,false) (dW l st k)
 |0=> .refl _
 |k+1=>(dz he k).trans (ui ((dz he k).iR he) k)
theorem gJ (n:Nat):fM (gB n):=fun k hk=>by
 rcases List.mem_cons.1 hk with rfl|hk
 ·exact .inr rfl
 ·exact .inl (List.mem_replicate.1 hk).2
theorem flow_ex {l:List Ins}:∀(n:Nat) (st:List (List Int)),fM st→rkS st≤n→∃r,jJ l st r
 |n,st,he,hn=>by
  have hd:=dz (l:=l) he l.length
  cases h:(iG l st).2
  ·exact⟨_,.done h⟩
  ·have hlt:=hd.lt he rfl h;match n with
   |0=>have h0:rkS (dW l st l.length).1<rkS st:=hlt;omega
   |n+1=>
    obtain⟨r,hr⟩:=flow_ex n (iG l st).1 (hd.iR he) (by have h0:rkS (dW l st l.length).1<rkS st:=hlt;unfold iG;omega);exact⟨r,.more h hr⟩
noncomputable def bQ (l:List Ins):List (List Int):=Classical.choose (flow_ex (l:=l) _ (gB l.length) (gJ _) (Nat.le_refl _))
theorem flowL_is {l:List Ins} {r:List (List Int)} (h:jJ l (gB l.length) r):bQ l=r:=(Classical.choose_spec (flow_ex (l:=l) _ (gB l.length) (gJ _) (Nat.le_refl _))).one h
theorem nX (l:List Ins):jJ l (gB l.length) (bQ l):=Classical.choose_spec (flow_ex (l:=l) _ (gB l.length) (gJ _) (Nat.le_refl _))
theorem jJ.keeps {l:List Ins} {st r:List (List Int)} (h:jJ l st r) (he:fM st):r.length=st.length∧fM r:=by
 induction h with
 | @done st h=>exact⟨(dz he _).len,(dz he _).iR he⟩
 | @more st r h _ ih=>
  have hd:=dz (l:=l) he l.length;obtain⟨h1,h2⟩:=ih (hd.iR he);exact⟨h1.trans hd.len,h2⟩
theorem rO {l:List Ins} (h:l≠[]):(bQ l).length=l.length:=by
 rw[((nX l).keeps (gJ _)).1];have:l.length≠0:=(by simpa using h);simp[gB]
 omega
theorem nN (l:List Ins):fM (bQ l):=((nX l).keeps (gJ _)).2
theorem jJ.shut {l:List Ins} {st r:List (List Int)} (h:jJ l st r) (he:fM st):iG l r=(r,false):=by
 induction h with
 | @done st h=>
  have:=(dz (l:=l) he l.length).same h;have h1:(iG l st).1=st:=this;rw[h1];exact Prod.ext h1 h
 | @more st r h _ ih=>exact ih ((dz (l:=l) he l.length).iR he)
end
section
open Go.RowKit
def kc (k:List Int):Array Value:=(k.map (.int .i64)).toArray
theorem gX (k:List Int) (a:Nat) (x:Int):(kc k).setIfInBounds a (.int .i64 x)=kc (k.set a x):=by
 unfold kc;simp[List.map_set]
theorem eO {w:World} {b:Nat} {k:List Int} {t:TypeId} (h:w.heap[b]?=some (.cells (kc k) t (0,0))) {j:Nat} {x:Int} (hx:k[j]?=some x):w.cell? ⟨b,j,none⟩=some (.int .i64 x):=by
 rw[cell_of_row w b j _ _ _ h];simp[kc,hx]
theorem eight {k:List Int} (h:k.length=8):∃m0 m1 m2 m3 m4 m5 m6 m7,k= [m0,m1,m2,m3,m4,m5,m6,m7]:=by
 match k,h with
 | [a,b,c,d,e,f,g,i],_=>exact⟨a,b,c,d,e,f,g,i,rfl⟩
theorem at8_at {k:List Int} {a:Nat} (h:a<k.length):k[a]?=some (at8 k a):=by
 unfold at8;rw[Int.toNat_natCast,List.getD_eq_getElem?_getD,zD h];rfl
def dY (w:World) (b:Nat) (u0 u1 u2 u3 u4 u5 u6 u7:Value):World:=
 (((((((w.setCell ⟨b,0,none⟩ u0).setCell ⟨b,1,none⟩ u1).setCell ⟨b,2,none⟩ u2).setCell ⟨b,3,none⟩ u3).setCell ⟨b,4,none⟩ u4).setCell ⟨b,5,none⟩ u5).setCell ⟨b,6,none⟩ u6).setCell ⟨b,7,none⟩ u7
theorem St.iw {B:Nat} {w0 w:World} {R:List Res} (h:St B w0 w R) (i:Nat) {b:Nat} {cs:Array Value} {t:TypeId} (u0 u1 u2 u3 u4 u5 u6 u7:Value) (hi:R[i]?=some (.blk b cs t)) (hs:cs.size=8):
  St B w0 (dY w b u0 u1 u2 u3 u4 u5 u6 u7) (R.set i (.blk b #[u0,u1,u2,u3,u4,u5,u6,u7] t))∧au w R (dY w b u0 u1 u2 u3 u4 u5 u6 u7) (R.set i (.blk b #[u0,u1,u2,u3,u4,u5,u6,u7] t))∧(dY w b u0 u1 u2 u3 u4 u5 u6 u7).heap.size=w.heap.size:=by
 have hil:i<R.length:=(zE.1 hi).1;let Inv:World→Array Value→Prop:=fun w1 c1=>St B w0 w1 (R.set i (.blk b c1 t))∧au w R w1 (R.set i (.blk b c1 t))∧w1.heap.size=w.heap.size
 have step:∀(n:Nat) (u:Value) (w1:World) (c1:Array Value),Inv w1 c1→Inv (w1.setCell ⟨b,n,none⟩ u) (c1.setIfInBounds n u):=fun n u w1 c1 ⟨h1,h2,h3⟩=>by
  have hx:(R.set i (.blk b c1 t))[i]?=some (.blk b c1 t):=List.getElem?_set_self hil;have h4:=h1.put i n u hx;rw[List.set_set] at h4;exact⟨h4.1,h2.trans (by omega) h4.2,by rw[←h3];simp⟩
 have h0:Inv w cs:=by
  have:R.set i (.blk b cs t)=R:=(by rw[←(zE.1 hi).2,List.set_getElem_self]);show St B w0 w (R.set i (.blk b cs t))∧au w R w (R.set i (.blk b cs t))∧w.heap.size=w.heap.size
  rw[this];exact⟨h,.refl,rfl⟩
 have hA:(((((((cs.setIfInBounds 0 u0).setIfInBounds 1 u1).setIfInBounds 2 u2).setIfInBounds 3 u3).setIfInBounds 4 u4).setIfInBounds 5 u5).setIfInBounds 6 u6).setIfInBounds 7 u7= #[u0,u1,u2,u3,u4,u5,u6,u7]:=by
  obtain⟨l⟩:=cs;match l,hs with
  | [a0,a1,a2,a3,a4,a5,a6,a7],_=>simp
 have h8:=step 7 u7 _ _ (step 6 u6 _ _ (step 5 u5 _ _ (step 4 u4 _ _ (step 3 u3 _ _ (step 2 u2 _ _ (step 1 u1 _ _ (step 0 u0 _ _ h0)))))));rw[hA] at h8;exact h8
theorem lV {k:List Int} {op a b n:Int} (h:op=0∨op=5∨op=6∨op=9∨op=14∨op=15∨op=19):eF k ⟨op,a,b,n⟩=k:=by
 rcases h with rfl|rfl|rfl|rfl|rfl|rfl|rfl<;>rfl
theorem lM {k:List Int} {op b n:Int} {a:Nat} (h:op=1∨op=2∨op=3∨op=4∨op=8∨op=16):eF k ⟨op,a,b,n⟩=k.set a 1:=by
 rcases h with rfl|rfl|rfl|rfl|rfl|rfl<;>rfl
theorem ug {k:List Int} {op b n:Int} {a:Nat} (h:op=13∨op=18):eF k ⟨op,a,b,n⟩=k.set a 0:=by
 rcases h with rfl|rfl<;>rfl
theorem later_new {k:List Int} {b n:Int} {a:Nat}:eF k ⟨7,a,b,n⟩=k.set a 3:=rfl
theorem later_get {k:List Int} {n:Int} {a b:Nat}:eF k ⟨10,a,b,n⟩=(k.set b 2).set a 2:=rfl
theorem later_spawn {k:List Int} {n:Int} {a b:Nat}:eF k ⟨17,a,b,n⟩=(k.set b 0).set a 1:=rfl
theorem nQ {k:List Int} {n:Int} {a b:Nat} (h:a=b∨at8 k b=2):eF k ⟨11,a,b,n⟩=k.set a 2:=by
 show(if(a:Int)=(b:Int)∨at8 k (b:Int)=2 then k.set a 2 else k.set b 0)=_
 rw[if_pos (h.elim (fun e=> .inl (by rw[e])) .inr)]
theorem tT {k:List Int} {n:Int} {a b:Nat} (h:¬(a=b∨at8 k b=2)):eF k ⟨11,a,b,n⟩=k.set b 0:=by
 show(if(a:Int)=(b:Int)∨at8 k (b:Int)=2 then k.set a 2 else k.set b 0)=_
 rw[if_neg (fun h'=>h (h'.elim (fun e=> .inl (by omega)) .inr))]
theorem sI {k:List Int} {n:Int} {a b:Nat} (h:at8 k b=3):eF k ⟨12,a,b,n⟩=(k.set b 0).set a (at8 k b):=by
 show(if at8 k (b:Int)=3 then k.set b 0 else k).set a (at8 k b)=_
 rw[if_pos h]
theorem sM {k:List Int} {n:Int} {a b:Nat} (h:¬at8 k b=3):eF k ⟨12,a,b,n⟩=k.set a (at8 k b):=by
 show(if at8 k (b:Int)=3 then k.set b 0 else k).set a (at8 k b)=_
 rw[if_neg h]
def kv (k:List Int):Value:= .agg (kc k)
set_option maxRecDepth 100000 in
set_option maxHeartbeats 8000000 in
theorem behind_any (k:List Int) (hk:k.length=8) (op n:Int) (a b:Nat) (ho:0≤op∧op≤19) (ha:a<8) (hb:b<8) (w:World):
  Calls Tryd.prog 64 #[kv k,.agg #[.int .i64 op,.int .i64 a,.int .i64 b,.int .i64 n]] w fun e w'=>e= .returned (kv (eF k ⟨op,a,b,n⟩))∧Below w.heap.size w w':=by
 have hxa:=at8_at (k:=k) (a:=a) (by omega);have hxb:=at8_at (k:=k) (a:=b) (by omega);have a1:(0:Int)≤(a:Int):=(by omega);have a2:(a:Int)<8:=(by omega);have b1:(0:Int)≤(b:Int):=(by omega);have b2:(b:Int)<8:=(by omega);have HXa:=zG hxa;have HXb:=zG hxb;have Hk:=zG hk;clear hxa hxb;obtain⟨k0,k1,k2,k3,k4,k5,k6,k7,hkk⟩:=eight hk;have HKK:=zG hkk;have hL:=lN (k:=k) (i:=⟨op,a,b,n⟩);rw[hk] at hL;obtain⟨m0,m1,m2,m3,m4,m5,m6,m7,hmm⟩:=eight hL;rw[hmm];have hkv:kv k= .agg #[.int .i64 k0,.int .i64 k1,.int .i64 k2,.int .i64 k3,.int .i64 k4,.int .i64 k5,.int .i64 k6,.int .i64 k7]:=(by rw[hkk];rfl);have hmv:kv [m0,m1,m2,m3,m4,m5,m6,m7]= .agg #[.int .i64 m0,.int .i64 m1,.int .i64 m2,.int .i64 m3,.int .i64 m4,.int .i64 m5,.int .i64 m6,.int .i64 m7]:=rfl;rw[hkv,hmv];have hkc:#[.int .i64 k0,.int .i64 k1,.int .i64 k2,.int .i64 k3,.int .i64 k4,.int .i64 k5,.int .i64 k6,.int .i64 k7]=kc k:=(by rw[hkk];rfl);have hmc:kc (eF k ⟨op,a,b,n⟩)= #[.int .i64 m0,.int .i64 m1,.int .i64 m2,.int .i64 m3,.int .i64 m4,.int .i64 m5,.int .i64 m6,.int .i64 m7]:=(by rw[hmm];rfl);have Hkc:=zG hkc;have Hmc:=zG hmc;clear hkv hmv hkc hmc hmm hL hkk hk;generalize hxa:at8 k (a:Int)=xa at*;generalize hxb:at8 k (b:Int)=xb at*;have Hxb:=zG hxb;clear hxa hxb;have T0:St w.heap.size w ((((w.alloc (.cells #[.int .i64 k0,.int .i64 k1,.int .i64 k2,.int .i64 k3,.int .i64 k4,.int .i64 k5,.int .i64 k6,.int .i64 k7] 92)).alloc (.cells #[.int .i64 op,.int .i64 a,.int .i64 b,.int .i64 n] 58)).alloc (.cells #[.int .i64 0,.int .i64 0,.int .i64 0,.int .i64 0,.int .i64 0,.int .i64 0,.int .i64 0,.int .i64 0] 92))) [.blk (w.heap.size+1+1) #[.int .i64 0,.int .i64 0,.int .i64 0,.int .i64 0,.int .i64 0,.int .i64 0,.int .i64 0,.int .i64 0] 92,.blk (w.heap.size+1) #[.int .i64 op,.int .i64 a,.int .i64 b,.int .i64 n] 58,.blk w.heap.size #[.int .i64 k0,.int .i64 k1,.int .i64 k2,.int .i64 k3,.int .i64 k4,.int .i64 k5,.int .i64 k6,.int .i64 k7] 92]:=((((((St.start w (Nat.le_refl _)).new' #[.int .i64 k0,.int .i64 k1,.int .i64 k2,.int .i64 k3,.int .i64 k4,.int .i64 k5,.int .i64 k6,.int .i64 k7] 92 (w.heap.size) (by simp)).1).new' #[.int .i64 op,.int .i64 a,.int .i64 b,.int .i64 n] 58 (w.heap.size+1) (by simp)).1).new' #[.int .i64 0,.int .i64 0,.int .i64 0,.int .i64 0,.int .i64 0,.int .i64 0,.int .i64 0,.int .i64 0] 92 (w.heap.size+1+1) (by simp)).1;go_enter Tryd.func64,Tryd.ntmps64
 go_upto_region 1 with fail;generalize (((w.alloc (.cells #[.int .i64 k0,.int .i64 k1,.int .i64 k2,.int .i64 k3,.int .i64 k4,.int .i64 k5,.int .i64 k6,.int .i64 k7] 92)).alloc (.cells #[.int .i64 op,.int .i64 a,.int .i64 b,.int .i64 n] 58)).alloc (.cells #[.int .i64 0,.int .i64 0,.int .i64 0,.int .i64 0,.int .i64 0,.int .i64 0,.int .i64 0,.int .i64 0] 92))=W at*;rw[Hkc.out] at T0;have HT:=zG T0;clear T0;rcases op_cases (show ¬(op<0∨19<op) by omega) with rfl|rfl|rfl|rfl|rfl|rfl|rfl|rfl|rfl|rfl|rfl|rfl|rfl|rfl|rfl|rfl|rfl|rfl|rfl|rfl
 focus
  have h_:=HT.rz 2;have z_k:w.heap.size<W.heap.size:=(HT.in_ 2 rfl rfl).2;have f_k:∀i,W.frozen? ⟨w.heap.size,i,none⟩=false:=fun i=>by have:=HT.heap 2 rfl;simp[World.frozen?,this]
  go_upto_region 28 with fail;have hfin:=Hmc.out;rw[lV (by decide)] at hfin;rw[hfin] at HT;clear hfin;clear h_ z_k f_k;replace HT:=sp0 (nd1 (HT.drop 1));generalize W=WA at*
 rotate_left;focus
  have h_:=HT.rz 2;have z_k:w.heap.size<W.heap.size:=(HT.in_ 2 rfl rfl).2;have f_k:∀i,W.frozen? ⟨w.heap.size,i,none⟩=false:=fun i=>by have:=HT.heap 2 rfl;simp[World.frozen?,this]
  have c_a:W.cell? ⟨w.heap.size,a,none⟩=some (.int .i64 xa):=eO (HT.heap 2 rfl) (HXa.out);go_upto_region 28 with fail;clear h_ z_k f_k c_a;replace HT:=sp0 (ns2 (HT.put 2 a (.int .i64 1) rfl));rw[gX] at HT;generalize W.setCell ⟨w.heap.size,a,none⟩ (.int .i64 1)=W1 at*;have hfin:=Hmc.out;rw[lM (by decide)] at hfin;rw[hfin] at HT;clear hfin;replace HT:=sp0 (nd1 (HT.drop 1));generalize W1=WA at*
 rotate_left;focus
  have h_:=HT.rz 2;have z_k:w.heap.size<W.heap.size:=(HT.in_ 2 rfl rfl).2;have f_k:∀i,W.frozen? ⟨w.heap.size,i,none⟩=false:=fun i=>by have:=HT.heap 2 rfl;simp[World.frozen?,this]
  have c_a:W.cell? ⟨w.heap.size,a,none⟩=some (.int .i64 xa):=eO (HT.heap 2 rfl) (HXa.out);go_upto_region 28 with fail;clear h_ z_k f_k c_a;replace HT:=sp0 (ns2 (HT.put 2 a (.int .i64 1) rfl));rw[gX] at HT;generalize W.setCell ⟨w.heap.size,a,none⟩ (.int .i64 1)=W1 at*;have hfin:=Hmc.out;rw[lM (by decide)] at hfin;rw[hfin] at HT;clear hfin;replace HT:=sp0 (nd1 (HT.drop 1));generalize W1=WA at*
 rotate_left;focus
  have h_:=HT.rz 2;have z_k:w.heap.size<W.heap.size:=(HT.in_ 2 rfl rfl).2;have f_k:∀i,W.frozen? ⟨w.heap.size,i,none⟩=false:=fun i=>by have:=HT.heap 2 rfl;simp[World.frozen?,this]
  have c_a:W.cell? ⟨w.heap.size,a,none⟩=some (.int .i64 xa):=eO (HT.heap 2 rfl) (HXa.out);go_upto_region 28 with fail;clear h_ z_k f_k c_a;replace HT:=sp0 (ns2 (HT.put 2 a (.int .i64 1) rfl));rw[gX] at HT;generalize W.setCell ⟨w.heap.size,a,none⟩ (.int .i64 1)=W1 at*;have hfin:=Hmc.out;rw[lM (by decide)] at hfin;rw[hfin] at HT;clear hfin;replace HT:=sp0 (nd1 (HT.drop 1));generalize W1=WA at*
 rotate_left;focus
  have h_:=HT.rz 2;have z_k:w.heap.size<W.heap.size:=(HT.in_ 2 rfl rfl).2;have f_k:∀i,W.frozen? ⟨w.heap.size,i,none⟩=false:=fun i=>by have:=HT.heap 2 rfl;simp[World.frozen?,this]
  have c_a:W.cell? ⟨w.heap.size,a,none⟩=some (.int .i64 xa):=eO (HT.heap 2 rfl) (HXa.out);go_upto_region 28 with fail;clear h_ z_k f_k c_a;replace HT:=sp0 (ns2 (HT.put 2 a (.int .i64 1) rfl));rw[gX] at HT;generalize W.setCell ⟨w.heap.size,a,none⟩ (.int .i64 1)=W1 at*;have hfin:=Hmc.out;rw[lM (by decide)] at hfin;rw[hfin] at HT;clear hfin;replace HT:=sp0 (nd1 (HT.drop 1));generalize W1=WA at*
 rotate_left;focus
  have h_:=HT.rz 2;have z_k:w.heap.size<W.heap.size:=(HT.in_ 2 rfl rfl).2;have f_k:∀i,W.frozen? ⟨w.heap.size,i,none⟩=false:=fun i=>by have:=HT.heap 2 rfl;simp[World.frozen?,this]
  go_upto_region 28 with fail;have hfin:=Hmc.out;rw[lV (by decide)] at hfin;rw[hfin] at HT;clear hfin;clear h_ z_k f_k;replace HT:=sp0 (nd1 (HT.drop 1));generalize W=WA at*
 rotate_left;focus
  have h_:=HT.rz 2;have z_k:w.heap.size<W.heap.size:=(HT.in_ 2 rfl rfl).2;have f_k:∀i,W.frozen? ⟨w.heap.size,i,none⟩=false:=fun i=>by have:=HT.heap 2 rfl;simp[World.frozen?,this]
  go_upto_region 28 with fail;have hfin:=Hmc.out;rw[lV (by decide)] at hfin;rw[hfin] at HT;clear hfin;clear h_ z_k f_k;replace HT:=sp0 (nd1 (HT.drop 1));generalize W=WA at*
 rotate_left;focus
  have h_:=HT.rz 2;have z_k:w.heap.size<W.heap.size:=(HT.in_ 2 rfl rfl).2;have f_k:∀i,W.frozen? ⟨w.heap.size,i,none⟩=false:=fun i=>by have:=HT.heap 2 rfl;simp[World.frozen?,this]
  have c_a:W.cell? ⟨w.heap.size,a,none⟩=some (.int .i64 xa):=eO (HT.heap 2 rfl) (HXa.out);go_upto_region 28 with fail;clear h_ z_k f_k c_a;replace HT:=sp0 (ns2 (HT.put 2 a (.int .i64 3) rfl));rw[gX] at HT;generalize W.setCell ⟨w.heap.size,a,none⟩ (.int .i64 3)=W1 at*;have hfin:=Hmc.out;rw[later_new] at hfin;rw[hfin] at HT;clear hfin;replace HT:=sp0 (nd1 (HT.drop 1));generalize W1=WA at*
 rotate_left;focus
  have h_:=HT.rz 2;have z_k:w.heap.size<W.heap.size:=(HT.in_ 2 rfl rfl).2;have f_k:∀i,W.frozen? ⟨w.heap.size,i,none⟩=false:=fun i=>by have:=HT.heap 2 rfl;simp[World.frozen?,this]
  have c_a:W.cell? ⟨w.heap.size,a,none⟩=some (.int .i64 xa):=eO (HT.heap 2 rfl) (HXa.out);go_upto_region 28 with fail;clear h_ z_k f_k c_a;replace HT:=sp0 (ns2 (HT.put 2 a (.int .i64 1) rfl));rw[gX] at HT;generalize W.setCell ⟨w.heap.size,a,none⟩ (.int .i64 1)=W1 at*;have hfin:=Hmc.out;rw[lM (by decide)] at hfin;rw[hfin] at HT;clear hfin;replace HT:=sp0 (nd1 (HT.drop 1));generalize W1=WA at*
 rotate_left;focus
  have h_:=HT.rz 2;have z_k:w.heap.size<W.heap.size:=(HT.in_ 2 rfl rfl).2;have f_k:∀i,W.frozen? ⟨w.heap.size,i,none⟩=false:=fun i=>by have:=HT.heap 2 rfl;simp[World.frozen?,this]
  go_upto_region 28 with fail;have hfin:=Hmc.out;rw[lV (by decide)] at hfin;rw[hfin] at HT;clear hfin;clear h_ z_k f_k;replace HT:=sp0 (nd1 (HT.drop 1));generalize W=WA at*
 rotate_left;focus
  have h_:=HT.rz 2;have z_k:w.heap.size<W.heap.size:=(HT.in_ 2 rfl rfl).2;have f_k:∀i,W.frozen? ⟨w.heap.size,i,none⟩=false:=fun i=>by have:=HT.heap 2 rfl;simp[World.frozen?,this]
  have c_b:W.cell? ⟨w.heap.size,b,none⟩=some (.int .i64 xb):=eO (HT.heap 2 rfl) (HXb.out);go_upto_region 12 with fail;refine av [.still [0,1,2,3,4],.loud 5 [2,3],.still [6],.loud 7 []] (by kernel_rfl) (by kernel_rfl) ?_;refine ps_ ?_;repeat still_step
  refine zH ?_;refine pl_ ?_;go_wp2_with fail;clear h_ z_k f_k c_b;replace HT:=sp0 (ns2 (HT.put 2 b (.int .i64 2) rfl));rw[gX] at HT;generalize W.setCell ⟨w.heap.size,b,none⟩ (.int .i64 2)=W1 at*;have h_:=HT.rz 2;have z_k:w.heap.size<W1.heap.size:=(HT.in_ 2 rfl rfl).2;have f_k:∀i,W1.frozen? ⟨w.heap.size,i,none⟩=false:=fun i=>by have:=HT.heap 2 rfl;simp[World.frozen?,this]
  obtain⟨xa2,hxa2⟩:∃x,(k.set b 2)[a]?=some x:=⟨_,zD (by have:=Hk.out;simp;omega)⟩;have c_a:W1.cell? ⟨w.heap.size,a,none⟩=some (.int .i64 xa2):=eO (HT.heap 2 rfl) (hxa2);refine ag_ ?_;refine ps_ ?_;repeat still_step
  refine zH ?_;refine pl_ ?_;go_wp2_with fail;clear h_ z_k f_k c_a;replace HT:=sp0 (ns2 (HT.put 2 a (.int .i64 2) rfl));rw[gX] at HT;generalize W1.setCell ⟨w.heap.size,a,none⟩ (.int .i64 2)=W2 at*;refine⟨trivial,?_⟩;refine zI ?_;replace HT:=sp0 HT.drew';generalize W2.drew=W3 at*;have hfin:=Hmc.out;rw[later_get] at hfin;rw[hfin] at HT;clear hfin;replace HT:=sp0 (nd1 (HT.drop 1));generalize W3=WA at*
 rotate_left;focus
  have h_:=HT.rz 2;have z_k:w.heap.size<W.heap.size:=(HT.in_ 2 rfl rfl).2;have f_k:∀i,W.frozen? ⟨w.heap.size,i,none⟩=false:=fun i=>by have:=HT.heap 2 rfl;simp[World.frozen?,this]
  have c_a:W.cell? ⟨w.heap.size,a,none⟩=some (.int .i64 xa):=eO (HT.heap 2 rfl) (HXa.out);have c_b:W.cell? ⟨w.heap.size,b,none⟩=some (.int .i64 xb):=eO (HT.heap 2 rfl) (HXb.out);by_cases hab:a=b∨xb=2
  rotate_left;focus
   have Hab:=zG hab;have e1:((a:Int)==(b:Int))=false:=(by simp;omega);have e2:(xb==2)=false:=(by simp;omega);clear hab;go_upto_region 28 with fail;clear h_ z_k f_k c_a c_b;replace HT:=sp0 (ns2 (HT.put 2 b (.int .i64 0) rfl));rw[gX] at HT;generalize W.setCell ⟨w.heap.size,b,none⟩ (.int .i64 0)=W1 at*;have hfin:=Hmc.out;rw[tT (by rw[Hxb.out];exact Hab.out)] at hfin;rw[hfin] at HT;clear hfin;replace HT:=sp0 (nd1 (HT.drop 1));generalize W1=WA at*
  rotate_left;focus
   have Hab:=zG hab;rcases hab with hab|hab
   focus
    have e1:((a:Int)==(b:Int))=true:=(by rw[hab];exact beq_self_eq_true _);clear hab;go_upto_region 28 with fail;clear h_ z_k f_k c_a c_b;replace HT:=sp0 (ns2 (HT.put 2 a (.int .i64 2) rfl));rw[gX] at HT;generalize W.setCell ⟨w.heap.size,a,none⟩ (.int .i64 2)=W1 at*;have hfin:=Hmc.out;rw[nQ (by rw[Hxb.out];exact Hab.out)] at hfin;rw[hfin] at HT;clear hfin;replace HT:=sp0 (nd1 (HT.drop 1));generalize W1=WA at*
   rotate_left;focus
    by_cases hab2:a=b
    focus
     have e1:((a:Int)==(b:Int))=true:=(by rw[hab2];exact beq_self_eq_true _);clear hab2 hab;go_upto_region 28 with fail;clear h_ z_k f_k c_a c_b;replace HT:=sp0 (ns2 (HT.put 2 a (.int .i64 2) rfl));rw[gX] at HT;generalize W.setCell ⟨w.heap.size,a,none⟩ (.int .i64 2)=W1 at*;have hfin:=Hmc.out;rw[nQ (by rw[Hxb.out];exact Hab.out)] at hfin;rw[hfin] at HT;clear hfin;replace HT:=sp0 (nd1 (HT.drop 1));generalize W1=WA at*
    rotate_left;focus
     have e1:((a:Int)==(b:Int))=false:=(by simp;omega);have e2:(xb==2)=true:=(by simpa using hab);clear hab hab2;go_upto_region 28 with fail;clear h_ z_k f_k c_a c_b;replace HT:=sp0 (ns2 (HT.put 2 a (.int .i64 2) rfl));rw[gX] at HT;generalize W.setCell ⟨w.heap.size,a,none⟩ (.int .i64 2)=W1 at*;have hfin:=Hmc.out;rw[nQ (by rw[Hxb.out];exact Hab.out)] at hfin;rw[hfin] at HT;clear hfin;replace HT:=sp0 (nd1 (HT.drop 1));generalize W1=WA at*
 rotate_left 4;focus
  have h_:=HT.rz 2;have z_k:w.heap.size<W.heap.size:=(HT.in_ 2 rfl rfl).2;have f_k:∀i,W.frozen? ⟨w.heap.size,i,none⟩=false:=fun i=>by have:=HT.heap 2 rfl;simp[World.frozen?,this]
  have c_a:W.cell? ⟨w.heap.size,a,none⟩=some (.int .i64 xa):=eO (HT.heap 2 rfl) (HXa.out);have c_b:W.cell? ⟨w.heap.size,b,none⟩=some (.int .i64 xb):=eO (HT.heap 2 rfl) (HXb.out);by_cases h3:xb=3
  focus
   have H3:=zG h3;have e1:(xb==3)=true:=(by simpa using h3);clear h3;go_upto_region 21 with fail;clear h_ z_k f_k c_a c_b;replace HT:=sp0 (ns2 (HT.put 2 b (.int .i64 0) rfl));rw[gX] at HT;generalize W.setCell ⟨w.heap.size,b,none⟩ (.int .i64 0)=W1 at*;have h_:=HT.rz 2;have z_k:w.heap.size<W1.heap.size:=(HT.in_ 2 rfl rfl).2;have f_k:∀i,W1.frozen? ⟨w.heap.size,i,none⟩=false:=fun i=>by have:=HT.heap 2 rfl;simp[World.frozen?,this]
   obtain⟨xa2,hxa2⟩:∃x,(k.set b 0)[a]?=some x:=⟨_,zD (by have:=Hk.out;simp;omega)⟩;have c_a:W1.cell? ⟨w.heap.size,a,none⟩=some (.int .i64 xa2):=eO (HT.heap 2 rfl) (hxa2);go_upto_region 28 with fail;clear h_ z_k f_k c_a;replace HT:=sp0 (ns2 (HT.put 2 a (.int .i64 xb) rfl));rw[gX] at HT;generalize W1.setCell ⟨w.heap.size,a,none⟩ (.int .i64 xb)=W2 at*;have hfin:=Hmc.out;rw[sI (by rw[Hxb.out];exact H3.out),Hxb.out] at hfin;rw[hfin] at HT;clear hfin;replace HT:=sp0 (nd1 (HT.drop 1));generalize W2=WA at*
  rotate_left;focus
   have H3:=zG h3;have e1:(xb==3)=false:=(by simpa using h3);clear h3;go_upto_region 28 with fail;clear h_ z_k f_k c_a c_b;replace HT:=sp0 (ns2 (HT.put 2 a (.int .i64 xb) rfl));rw[gX] at HT;generalize W.setCell ⟨w.heap.size,a,none⟩ (.int .i64 xb)=W1 at*;have hfin:=Hmc.out;rw[sM (by rw[Hxb.out];exact H3.out),Hxb.out] at hfin;rw[hfin] at HT;clear hfin;replace HT:=sp0 (nd1 (HT.drop 1));generalize W1=WA at*
 rotate_left 2;focus
  have h_:=HT.rz 2;have z_k:w.heap.size<W.heap.size:=(HT.in_ 2 rfl rfl).2;have f_k:∀i,W.frozen? ⟨w.heap.size,i,none⟩=false:=fun i=>by have:=HT.heap 2 rfl;simp[World.frozen?,this]
  have c_a:W.cell? ⟨w.heap.size,a,none⟩=some (.int .i64 xa):=eO (HT.heap 2 rfl) (HXa.out);go_upto_region 28 with fail;clear h_ z_k f_k c_a;replace HT:=sp0 (ns2 (HT.put 2 a (.int .i64 0) rfl));rw[gX] at HT;generalize W.setCell ⟨w.heap.size,a,none⟩ (.int .i64 0)=W1 at*;have hfin:=Hmc.out;rw[ug (by decide)] at hfin;rw[hfin] at HT;clear hfin;replace HT:=sp0 (nd1 (HT.drop 1));generalize W1=WA at*
 rotate_left;focus
  have h_:=HT.rz 2;have z_k:w.heap.size<W.heap.size:=(HT.in_ 2 rfl rfl).2;have f_k:∀i,W.frozen? ⟨w.heap.size,i,none⟩=false:=fun i=>by have:=HT.heap 2 rfl;simp[World.frozen?,this]
  go_upto_region 28 with fail;have hfin:=Hmc.out;rw[lV (by decide)] at hfin;rw[hfin] at HT;clear hfin;clear h_ z_k f_k;replace HT:=sp0 (nd1 (HT.drop 1));generalize W=WA at*
 rotate_left;focus
  have h_:=HT.rz 2;have z_k:w.heap.size<W.heap.size:=(HT.in_ 2 rfl rfl).2;have f_k:∀i,W.frozen? ⟨w.heap.size,i,none⟩=false:=fun i=>by have:=HT.heap 2 rfl;simp[World.frozen?,this]
  go_upto_region 28 with fail;have hfin:=Hmc.out;rw[lV (by decide)] at hfin;rw[hfin] at HT;clear hfin;clear h_ z_k f_k;replace HT:=sp0 (nd1 (HT.drop 1));generalize W=WA at*
 rotate_left;focus
  have h_:=HT.rz 2;have z_k:w.heap.size<W.heap.size:=(HT.in_ 2 rfl rfl).2;have f_k:∀i,W.frozen? ⟨w.heap.size,i,none⟩=false:=fun i=>by have:=HT.heap 2 rfl;simp[World.frozen?,this]
  have c_a:W.cell? ⟨w.heap.size,a,none⟩=some (.int .i64 xa):=eO (HT.heap 2 rfl) (HXa.out);go_upto_region 28 with fail;clear h_ z_k f_k c_a;replace HT:=sp0 (ns2 (HT.put 2 a (.int .i64 1) rfl));rw[gX] at HT;generalize W.setCell ⟨w.heap.size,a,none⟩ (.int .i64 1)=W1 at*;have hfin:=Hmc.out;rw[lM (by decide)] at hfin;rw[hfin] at HT;clear hfin;replace HT:=sp0 (nd1 (HT.drop 1));generalize W1=WA at*
 rotate_left;focus
  have h_:=HT.rz 2;have z_k:w.heap.size<W.heap.size:=(HT.in_ 2 rfl rfl).2;have f_k:∀i,W.frozen? ⟨w.heap.size,i,none⟩=false:=fun i=>by have:=HT.heap 2 rfl;simp[World.frozen?,this]
  have c_b:W.cell? ⟨w.heap.size,b,none⟩=some (.int .i64 xb):=eO (HT.heap 2 rfl) (HXb.out);go_upto_region 27 with fail;clear h_ z_k f_k c_b;replace HT:=sp0 (ns2 (HT.put 2 b (.int .i64 0) rfl));rw[gX] at HT;generalize W.setCell ⟨w.heap.size,b,none⟩ (.int .i64 0)=W1 at*;have h_:=HT.rz 2;have z_k:w.heap.size<W1.heap.size:=(HT.in_ 2 rfl rfl).2;have f_k:∀i,W1.frozen? ⟨w.heap.size,i,none⟩=false:=fun i=>by have:=HT.heap 2 rfl;simp[World.frozen?,this]
  obtain⟨xa2,hxa2⟩:∃x,(k.set b 0)[a]?=some x:=⟨_,zD (by have:=Hk.out;simp;omega)⟩;have c_a:W1.cell? ⟨w.heap.size,a,none⟩=some (.int .i64 xa2):=eO (HT.heap 2 rfl) (hxa2);go_upto_region 28 with fail;clear h_ z_k f_k c_a;replace HT:=sp0 (ns2 (HT.put 2 a (.int .i64 1) rfl));rw[gX] at HT;generalize W1.setCell ⟨w.heap.size,a,none⟩ (.int .i64 1)=W2 at*;have hfin:=Hmc.out;rw[later_spawn] at hfin;rw[hfin] at HT;clear hfin;replace HT:=sp0 (nd1 (HT.drop 1));generalize W2=WA at*
 rotate_left;focus
  have h_:=HT.rz 2;have z_k:w.heap.size<W.heap.size:=(HT.in_ 2 rfl rfl).2;have f_k:∀i,W.frozen? ⟨w.heap.size,i,none⟩=false:=fun i=>by have:=HT.heap 2 rfl;simp[World.frozen?,this]
  have c_a:W.cell? ⟨w.heap.size,a,none⟩=some (.int .i64 xa):=eO (HT.heap 2 rfl) (HXa.out);go_upto_region 28 with fail;clear h_ z_k f_k c_a;replace HT:=sp0 (ns2 (HT.put 2 a (.int .i64 0) rfl));rw[gX] at HT;generalize W.setCell ⟨w.heap.size,a,none⟩ (.int .i64 0)=W1 at*;have hfin:=Hmc.out;rw[ug (by decide)] at hfin;rw[hfin] at HT;clear hfin;replace HT:=sp0 (nd1 (HT.drop 1));generalize W1=WA at*
 rotate_left;focus
  have h_:=HT.rz 2;have z_k:w.heap.size<W.heap.size:=(HT.in_ 2 rfl rfl).2;have f_k:∀i,W.frozen? ⟨w.heap.size,i,none⟩=false:=fun i=>by have:=HT.heap 2 rfl;simp[World.frozen?,this]
  go_upto_region 28 with fail;have hfin:=Hmc.out;rw[lV (by decide)] at hfin;rw[hfin] at HT;clear hfin;clear h_ z_k f_k;replace HT:=sp0 (nd1 (HT.drop 1));generalize W=WA at*
 rotate_left;all_goals (
  have h_:=HT.rz 2;go_wp2_with fail;clear h_;have hF:=HT.iw 0 (.int .i64 m0) (.int .i64 m1) (.int .i64 m2) (.int .i64 m3) (.int .i64 m4) (.int .i64 m5) (.int .i64 m6) (.int .i64 m7) rfl rfl;unfold dY at hF;generalize ((((((((WA.setCell ⟨w.heap.size+1+1,0,none⟩ (.int .i64 m0)).setCell ⟨w.heap.size+1+1,1,none⟩ (.int .i64 m1)).setCell ⟨w.heap.size+1+1,2,none⟩ (.int .i64 m2)).setCell ⟨w.heap.size+1+1,3,none⟩ (.int .i64 m3)).setCell ⟨w.heap.size+1+1,4,none⟩ (.int .i64 m4)).setCell ⟨w.heap.size+1+1,5,none⟩ (.int .i64 m5)).setCell ⟨w.heap.size+1+1,6,none⟩ (.int .i64 m6)).setCell ⟨w.heap.size+1+1,7,none⟩ (.int .i64 m7))=WZ at*;obtain⟨T',K',-⟩:=hF;replace T':St w.heap.size w WZ [.blk (w.heap.size+1+1) #[.int .i64 m0,.int .i64 m1,.int .i64 m2,.int .i64 m3,.int .i64 m4,.int .i64 m5,.int .i64 m6,.int .i64 m7] 92,.blk w.heap.size #[.int .i64 m0,.int .i64 m1,.int .i64 m2,.int .i64 m3,.int .i64 m4,.int .i64 m5,.int .i64 m6,.int .i64 m7] 92]:=T';clear K' HT;have HT:=zG T';clear T';have h_:=HT.rz 1;refine bodyPost_ret (v:= .agg #[.int .i64 m0,.int .i64 m1,.int .i64 m2,.int .i64 m3,.int .i64 m4,.int .i64 m5,.int .i64 m6,.int .i64 m7]) (by simp[results,Tryd.results64,go_sem,h_.1]) rfl ⟨rfl,HT.below⟩)
end
section
open Go.RowKit
def mayB (k:List Int) (i:Ins):Bool:=
 if i.op=0 then lv (at8 k 0)
 else if i.op=2∨i.op=3∨i.op=4 then at8 k i.a==1&&at8 k i.b==1
 else if i.op=5∨i.op=15 then at8 k i.a==1
 else if i.op=8∨i.op=10 then lv (at8 k i.b)
 else if i.op=9 then lv (at8 k i.a)&&at8 k i.b==1
 else if i.op=11 then lv (at8 k i.a)&&lv (at8 k i.b)
 else if i.op=12 then at8 k i.b !=0
 else if i.op=13 then at8 k i.a==3&&at8 k i.b==1
 else if i.op=14 then lv (at8 k i.a)&&at8 k i.b==1
 else if i.op=17 then at8 k i.b==3
 else true
def mayO (x0 xa xb:Int) (op:Int):Bool:=
 if op=0 then lv x0
 else if op=2∨op=3∨op=4 then xa==1&&xb==1
 else if op=5∨op=15 then xa==1
 else if op=8∨op=10 then lv xb
 else if op=9 then lv xa&&xb==1
 else if op=11 then lv xa&&lv xb
 else if op=12 then xb !=0
 else if op=13 then xa==3&&xb==1
 else if op=14 then lv xa&&xb==1
 else if op=17 then xb==3
 else true
theorem mayB_O (k:List Int) (i:Ins):mayB k i=mayO (at8 k 0) (at8 k i.a) (at8 k i.b) i.op:=rfl
set_option maxRecDepth 100000 in
set_option maxHeartbeats 4000000 in
theorem right_any (k:List Int) (hk:k.length=8) (op n:Int) (a b:Nat) (ho:0≤op∧op≤19) (ha:a<8) (hb:b<8) (w:World):
  Calls Tryd.prog 47 #[kv k,.agg #[.int .i64 op,.int .i64 a,.int .i64 b,.int .i64 n]] w fun e w'=>e= .returned (.bool (mayB k ⟨op,a,b,n⟩))∧Below w.heap.size w w':=by
 rw[mayB_O];have hx0:=at8_at (k:=k) (a:=0) (by omega);have hxa:=at8_at (k:=k) (a:=a) (by omega);have hxb:=at8_at (k:=k) (a:=b) (by omega);have a1:(0:Int)≤(a:Int):=(by omega);have a2:(a:Int)<8:=(by omega);have b1:(0:Int)≤(b:Int):=(by omega);have b2:(b:Int)<8:=(by omega);obtain⟨k0,k1,k2,k3,k4,k5,k6,k7,hkk⟩:=eight hk;have hkv:kv k= .agg #[.int .i64 k0,.int .i64 k1,.int .i64 k2,.int .i64 k3,.int .i64 k4,.int .i64 k5,.int .i64 k6,.int .i64 k7]:=(by rw[hkk];rfl);have hkc:#[.int .i64 k0,.int .i64 k1,.int .i64 k2,.int .i64 k3,.int .i64 k4,.int .i64 k5,.int .i64 k6,.int .i64 k7]=kc k:=(by rw[hkk];rfl);rw[hkv];have Hkc:=zG hkc;show Calls _ _ _ _ (fun e w'=>e= .returned (.bool (mayO (at8 k ((0:Nat):Int)) (at8 k (a:Int)) (at8 k (b:Int)) op))∧Below w.heap.size w w')
 generalize at8 k ((0:Nat):Int)=x0 at*;generalize at8 k (a:Int)=xa at*;generalize at8 k (b:Int)=xb at*;have hB:Below w.heap.size w ((w.alloc (.cells #[.int .i64 k0,.int .i64 k1,.int .i64 k2,.int .i64 k3,.int .i64 k4,.int .i64 k5,.int .i64 k6,.int .i64 k7] 92)).alloc (.cells #[.int .i64 op,.int .i64 a,.int .i64 b,.int .i64 n] 58)):=((Below.refl _ _).alloc (Nat.le_refl _) _).alloc (by simp) _;have HL:=(((dD.nil (w:=w)).new (cs:=#[.int .i64 k0,.int .i64 k1,.int .i64 k2,.int .i64 k3,.int .i64 k4,.int .i64 k5,.int .i64 k6,.int .i64 k7]) (t:=92) rfl).new (cs:=#[.int .i64 op,.int .i64 a,.int .i64 b,.int .i64 n]) (t:=58) (n:=w.heap.size+1) (by simp));clear hkk hkv hkc;have hm:∃m,mayO x0 xa xb op=m:=⟨_,rfl⟩;obtain⟨m,hm⟩:=hm;rw[hm];rcases op_cases (show ¬(op<0∨19<op) by omega) with rfl|rfl|rfl|rfl|rfl|rfl|rfl|rfl|rfl|rfl|rfl|rfl|rfl|rfl|rfl|rfl|rfl|rfl|rfl|rfl
 all_goals
  simp only[mayO,reduceIte,Int.reduceEq,or_true,or_false] at hm;have Hm:=zG hm;clear hm;go_enter Tryd.func47,Tryd.ntmps47
  go_upto_region 1 with fail;generalize (w.alloc (.cells #[.int .i64 k0,.int .i64 k1,.int .i64 k2,.int .i64 k3,.int .i64 k4,.int .i64 k5,.int .i64 k6,.int .i64 k7] 92)).alloc (.cells #[.int .i64 _,.int .i64 a,.int .i64 b,.int .i64 n] 58)=W at*;have c0:W.cell? ⟨w.heap.size,0,none⟩=some (.int .i64 x0):=eO (k:=k) (t:=92) (by rw[←Hkc.out];exact HL.at_ 1 rfl) hx0;have ca:W.cell? ⟨w.heap.size,a,none⟩=some (.int .i64 xa):=eO (k:=k) (t:=92) (by rw[←Hkc.out];exact HL.at_ 1 rfl) hxa;have cb:W.cell? ⟨w.heap.size,b,none⟩=some (.int .i64 xb):=eO (k:=k) (t:=92) (by rw[←Hkc.out];exact HL.at_ 1 rfl) hxb;obtain⟨r1,q1,-⟩:=HL.rules;dsimp only at r1 q1;clear hx0 hxa hxb HL;go_wp2_with fail;go_quiet (fail)
  go_wp2_with (refine(uu _ _).mono ?_;rintro e w' ⟨rfl,rfl⟩)
  all_goals
   go_ret
   refine⟨ret_bool ?_,below_drewN hB _⟩;first|exact Hm.out|(rw[←Hm.out];done)|(rw[←Hm.out];simp_all;done)
def WaysD (w:World) (l:List Int) (en:Ending) (w':World):Prop:=∃A c,en= .returned (.slice A l.length c)∧aj iE w' (fun b=>w.heap.size≤b) (.slice A l.length c) l∧Below w.heap.size w w'
theorem ways_nil {w w':World} (h:Below w.heap.size w w'):WaysD w [] (.returned (.slice none 0 0)) w':=⟨none,0,rfl,⟨none,0,rfl,Nat.le_refl _,Nat.zero_le _,by simp,fun h=>absurd rfl h⟩,h⟩
theorem rd_i1 {w:World} {b n:Nat} {t:TypeId} {x:Int} (h:w.heap[b]?=some (.cells #[.int .i64 x] t (0,0))) (hn:n≤b):aj iE w (fun b=>n≤b) (.slice (some ⟨b,0,none⟩) 1 1) [x]:=
 ⟨_,1,rfl,Nat.le_refl _,by decide,by show 1*8≤_;decide,fun _=>⟨b,0,rfl,hn,fun i y hy=>by
  match i,hy with
  |0,hy=>cases hy;exact⟨[.int .i64 x],rfl,rfl,fun j u hu=>by
    match j,hu with
    |0,hu=>cases hu;simp[World.cell?,h]⟩⟩⟩
theorem rd_i2 {w:World} {b n:Nat} {t:TypeId} {x y:Int} (h:w.heap[b]?=some (.cells #[.int .i64 x,.int .i64 y] t (0,0))) (hn:n≤b):aj iE w (fun b=>n≤b) (.slice (some ⟨b,0,none⟩) 2 2) [x,y]:=
 ⟨_,2,rfl,Nat.le_refl _,by decide,by show 2*8≤_;decide,fun _=>⟨b,0,rfl,hn,fun i z hz=>by
  match i,hz with
  |0,hz=>cases hz;exact⟨[.int .i64 x],rfl,rfl,fun j u hu=>by
    match j,hu with
    |0,hu=>cases hu;simp[World.cell?,h]⟩
  |1,hz=>cases hz;exact⟨[.int .i64 y],rfl,rfl,fun j u hu=>by
    match j,hu with
    |0,hu=>cases hu;simp[World.cell?,h,iE]⟩⟩⟩
set_option maxHeartbeats 2000000 in
theorem next_any (t op a b n:Int) (ho:0≤op∧op≤19) (ht:0≤t∧t<1000) (hn:op=5∨op=6→ -1000≤n∧n≤1000) (w:World):
  Calls Tryd.prog 65 #[.int .i64 t,.agg #[.int .i64 op,.int .i64 a,.int .i64 b,.int .i64 n]] w (WaysD w (lZ t ⟨op,a,b,n⟩)):=by
 have hB:Below w.heap.size w (w.alloc (.cells #[.int .i64 op,.int .i64 a,.int .i64 b,.int .i64 n] 58)):=(Below.refl _ _).alloc (Nat.le_refl _) _;have HL:=zG ((dD.nil (w:=w)).new (cs:=#[.int .i64 op,.int .i64 a,.int .i64 b,.int .i64 n]) (t:=58) rfl);have hz:(w.alloc (.cells #[.int .i64 op,.int .i64 a,.int .i64 b,.int .i64 n] 58)).heap.size=w.heap.size+1:=(by simp);by_cases h0:op=0∨op=19
 ·have hw:lZ t ⟨op,a,b,n⟩= []:=if_pos h0;rw[hw];clear hw hn;rcases h0 with rfl|rfl
  all_goals
   go_enter Tryd.func65,Tryd.ntmps65
   go_wp2
   go_ret
   exact ways_nil hB
 ·by_cases h6:op=6
  ·subst h6;have hw:lZ t ⟨6,a,b,n⟩= [t+n]:=rfl;obtain⟨n1,n2⟩:=hn (.inr rfl);rw[hw];clear hw hn h0;go_enter Tryd.func65,Tryd.ntmps65
   go_wp2
   go_ret
   exact⟨_,_,rfl,rd_i1 (gG (by simp)) (by simp),hB.alloc (by simp) _⟩
  ·by_cases h5:op=5
   ·subst h5;have hw:lZ t ⟨5,a,b,n⟩= [t+1,t+n]:=rfl;obtain⟨n1,n2⟩:=hn (.inl rfl);rw[hw];clear hw hn h0;go_enter Tryd.func65,Tryd.ntmps65
    go_wp2
    go_ret
    exact⟨_,_,rfl,rd_i2 (gG (by simp)) (by simp),hB.alloc (by simp) _⟩
   ·have hw:lZ t ⟨op,a,b,n⟩= [t+1]:=by
     show(if op=0∨op=19 then _ else if op=6 then _ else if op=5 then _ else _)=_
     rw[if_neg h0,if_neg h6,if_neg h5]
    rw[hw];have b0:(op==0)=false:=(by simp;omega);have b1:(op==19)=false:=(by simp;omega);have b2:(op==6)=false:=(by simpa using h6);have b3:(op==5)=false:=(by simpa using h5);clear hw hn h0 h6 h5;go_enter Tryd.func65,Tryd.ntmps65
    go_wp2
    go_ret
    exact⟨_,_,rfl,rd_i1 (gG (by simp)) (by simp),hB.alloc (by simp) _⟩
end
section
open Go.RowKit
structure FlIns (n:Nat) (i:Nat) (x:Ins):Prop where
 op:0≤x.op∧x.op≤19
 a:0≤x.a∧x.a<8
 b:0≤x.b∧x.b<8
 jump:x.op=5∨x.op=6→ -1000≤x.n∧x.n≤1000
 ways:∀t∈lZ i x,0≤t∧t<n
structure FlCode (l:List Ins):Prop where
 one:1≤l.length
 few:l.length≤60
 ins:∀(i:Nat) (x:Ins),l[i]?=some x→FlIns l.length i x
theorem insF_fl {k len at_:Int} {x:Ins} {n i:Nat} (h:insF k len at_ x=0) (hl:len=n) (hi:at_=i) (hin:i<n):FlIns n i x:=by
 subst hl hi;unfold insF at h;split at h;· cases h
 rename_i h1
 split at h;· cases h
 rename_i h2
 split at h;· cases h
 split at h;· cases h
 rename_i h4
 split at h;· cases h
 split at h;· cases h
 rename_i h6
 refine⟨by omega,by omega,by omega,fun h5=>?_,fun t ht=>?_⟩
 ·have e1:lowN x.op= -60:=(by unfold lowN;rw[if_neg (by omega),if_pos h5]);have e2:ov x.op=60:=(by unfold ov;rw[if_neg (by omega),if_pos h5]);omega
 ·unfold lZ at ht;split at ht
  ·cases ht
  ·rename_i w1
   split at ht
   ·rename_i w2
    simp at ht;subst ht
    omega
   ·rename_i w2
    split at ht
    ·rename_i w3
     simp at ht
     rcases ht with rfl|rfl
     ·omega
     ·omega
    ·simp at ht;subst ht
     omega
theorem codeF_fl {k:Int} {l:List Ins} (h:codeF k l=0):FlCode l:=by
 unfold codeF at h;split at h
 ·cases h
 ·rename_i h1
  refine⟨by omega,by omega,fun i x hx=>?_⟩;exact insF_fl (ik h _ (zF (qJ hx))) rfl rfl (zE.1 hx).1
theorem progF_fl {p:List (List Ins)} (h:bT p=0):1≤p.length∧p.length≤6∧∀l∈p,FlCode l:=by
 unfold bT at h;split at h
 ·cases h
 ·split at h
  ·cases h
  ·rename_i h1 h2
   refine⟨by omega,by omega,fun l hl=>?_⟩;exact codeF_fl (ik h _ (List.mem_map.2 ⟨l,hl,rfl⟩))
def pad8 (k:List Int):List Int:=if k= [] then List.replicate 8 0 else k
def dG (st:List (List Int)):List (List Int):=st.map pad8
def aU (st:List (List Int)):List Bool:=st.map (fun k=> !k.isEmpty)
theorem ax {st:List (List Int)} (h:fM st):∀k∈dG st,k.length=8:=fun k hk=>by
 obtain⟨k',hk',rfl⟩:=List.mem_map.1 hk;unfold pad8;split
 ·simp
 ·rcases h k' hk' with h|h
  ·contradiction
  ·exact h
theorem padS_set {st:List (List Int)} {t:Nat} {k:List Int} (hk:k≠[]):(dG st).set t k=dG (st.set t k):=by
 unfold dG;rw[List.map_set,pad8,if_neg hk]
theorem padS_at {st:List (List Int)} {t:Nat} {x:Int} {xs:List Int} (h:st[t]?=some (x::xs)):(dG st)[t]?=some (x::xs):=by simp[dG,h,pad8]
theorem knownS_set {st:List (List Int)} {t:Nat} {k:List Int} (hk:k≠[]):(aU st).set t true=aU (st.set t k):=by
 unfold aU;rw[List.map_set]
 cases k with
 |nil=>exact absurd rfl hk
 |cons=>rfl
theorem knownS_same {st:List (List Int)} {t:Nat} {k k':List Int} (h:st[t]?=some k') (hk':k'≠[]) (hk:k≠[]):aU (st.set t k)=aU st:=by
 unfold aU;rw[List.map_set];apply List.ext_getElem?
 intro i;rw[List.getElem?_set];by_cases hi:t=i
 ·subst hi;obtain⟨hl,he⟩:=zE.1 h;rw[List.getElem?_map,zD hl,he];simp only[List.length_map,hl,if_true,Option.map_some]
  cases k with
  |nil=>exact absurd rfl hk
  |cons=>
   cases k' with
   |nil=>exact absurd rfl hk'
   |cons=>rfl
 ·simp[hi]
theorem kD {st:List (List Int)} {t:Nat} {k:List Int} (h:st[t]?=some k):(aU st)[t]?=some (!k.isEmpty):=by simp[aU,h]
theorem stepT_new {k:List Int} {st:List (List Int)} {f:Bool} {t:Nat} (h:st[t]?=some []):stepT k (st,f) (t:Int)=(st.set t k,true):=by
 unfold stepT;simp[h]
theorem stepT_old {k xs:List Int} {x:Int} {st:List (List Int)} {f:Bool} {t:Nat} (h:st[t]?=some (x::xs)):stepT k (st,f) (t:Int)=(st.set t ((x::xs).zipWith eu k),f||decide ((x::xs).zipWith eu k≠x::xs)):=by
 unfold stepT;simp[h]
def eX (x k:List Int) (r:Nat):List Int:=(x.take r).zipWith eu (k.take r)++x.drop r
theorem joinTo_zero (x k:List Int):eX x k 0=x:=by simp[eX]
theorem joinTo_all {x k:List Int} (h:x.length=k.length):eX x k x.length=x.zipWith eu k:=by
 unfold eX;rw[List.take_length,List.drop_length,List.append_nil,h,List.take_length]
theorem joinTo_at {x k:List Int} {r:Nat} {a:Int} (h:x[r]?=some a) (hk:r≤k.length):(eX x k r)[r]?=some a:=by
 have hl:=(zE.1 h).1;unfold eX;rw[List.getElem?_append_right (by simp;omega)];simp[h,Nat.min_eq_left (Nat.le_of_lt hl),Nat.min_eq_left hk]
theorem joinTo_len {x k:List Int} {r:Nat} (h:x.length=k.length):(eX x k r).length=x.length:=by simp[eX,h];omega
theorem joinTo_next {x k:List Int} {r:Nat} {a b:Int} (ha:x[r]?=some a) (hb:k[r]?=some b):(eX x k r).set r (eu a b)=eX x k (r+1):=by
 obtain⟨hl,he⟩:=zE.1 ha;obtain⟨hk,hf⟩:=zE.1 hb;unfold eX;rw[List.set_append_right _ _ (by simp;omega)];have e1:((x.take r).zipWith eu (k.take r)).length=r:=(by simp;omega);rw[e1,Nat.sub_self,List.drop_eq_getElem_cons hl,zB,List.take_add_one,ha,List.take_add_one,hb];simp only[Option.toList_some];rw[List.zipWith_append (by simp;omega)];simp
def knE:El (List Int) where
 size:=8
 bytes:=64
 rd:=fun _ _ cs x=>cs=x.map (.int .i64)∧x.length=8
 keep:=fun _ h=>h
 one:=fun h u hu=>by
  obtain⟨rfl,_⟩:=h;obtain⟨x,_,rfl⟩:=List.mem_map.1 hu;rfl
theorem rowsK_held {w:World} {S:Nat→Prop} {ks:List (List Int)} (h:∀k∈ks,k.length=8):Held knE w S (bG ks) ks:=⟨by simp[bG],fun i x cs hx hc=>by
 simp[bG,hx] at hc
 subst hc;have:=h x (zF hx);exact⟨by show(x.map (Value.int .i64)).length=8;simpa using this,rfl,this⟩⟩
theorem ycs_held {w:World} {S:Nat→Prop} (l:List Bool):Held yE w S (l.map (fun b=>[.bool b])) l:=⟨by simp,fun i x cs hx hc=>by
 simp[hx] at hc
 subst hc;exact⟨rfl,rfl⟩⟩
theorem cat_ycs:∀l:List Bool,cat (l.map (fun b=>[Value.bool b]))=l.map .bool
 | []=>rfl
 |x::l=>by
  have:=cat_ycs l;unfold cat at*;simp[this]
theorem start_at {n:Nat} (h:1≤n):((List.replicate n (List.replicate 8 (0:Int))).set 0 ((List.replicate 8 0).set 0 3)).set 0 (((List.replicate 8 0).set 0 3).set 1 3)=dG (gB n):=by
 obtain⟨m,rfl⟩:∃m,n=m+1:=⟨n - 1,by omega⟩;simp only[List.replicate_succ (n:=m),zB,dG,gB,List.map_cons,Nat.add_sub_cancel,List.map_replicate];rfl
theorem start_known {n:Nat} (h:1≤n):(List.replicate n false).set 0 true=aU (gB n):=by
 obtain⟨m,rfl⟩:∃m,n=m+1:=⟨n - 1,by omega⟩;simp only[List.replicate_succ (n:=m),zB,aU,gB,List.map_cons,Nat.add_sub_cancel,List.map_replicate];rfl
theorem start_len {n:Nat} (h:1≤n):(gB n).length=n:=by simp[gB];omega
def FlowI (l:List Ins) (m:Nat) (fl:Bool) (st:List (List Int)):Prop:=
 st.length=l.length∧fM st∧(fl=true→(∀r,jJ l st r→jJ l (gB l.length) r)∧rkS st<m)∧(fl=false→jJ l (gB l.length) st)
theorem flowI_start {l:List Ins} (h:1≤l.length):FlowI l (rkS (gB l.length)+1) true (gB l.length):=⟨start_len h,gJ _,fun _=>⟨fun _ h=>h,by omega⟩,fun h=>by cases h⟩
theorem flowI_next {l:List Ins} {m:Nat} {st st':List (List Int)} {fl:Bool} (h:FlowI l m true st) (hr:dW l st l.length=(st',fl)):m - 1<m∧FlowI l (m - 1) fl st':=by
 obtain⟨h1,h2,h3,_⟩:=h;obtain⟨h4,h5⟩:=h3 rfl;have hd:=dz (l:=l) h2 l.length;have e1:(iG l st).1=st':=(by unfold iG;rw[hr]);have e2:(iG l st).2=fl:=(by unfold iG;rw[hr]);rw[hr] at hd;refine⟨by omega,hd.len.trans h1,hd.iR h2,fun hf=>⟨fun r hr'=>h4 r (.more (by rw[e2];exact hf) (by rw[e1];exact hr')),?_⟩,fun hf=>?_⟩
 ·have:=hd.lt h2 rfl hf;show rkS st'<m - 1
  have h6:rkS st'<rkS st:=this;omega
 ·rw[←e1];exact h4 _ (.done (by rw[e2];exact hf))
theorem flowI_end {l:List Ins} {m:Nat} {st:List (List Int)} (h:FlowI l m false st):bQ l=st:=flowL_is (h.2.2.2 rfl)
theorem roundTo_none {l:List Ins} {st st':List (List Int)} {fl:Bool} {k:Nat} (h:dW l st k=(st',fl)) (hk:st'[k]?=some []):dW l st (k+1)=(st',fl):=by
 show ny l (dW l st k) k=_
 rw[h];unfold ny;simp only[hk]
theorem roundTo_some {l:List Ins} {st st':List (List Int)} {fl:Bool} {k:Nat} {x:Int} {xs:List Int} {o:Ins} (h:dW l st k=(st',fl)) (hk:st'[k]?=some (x::xs)) (ho:l[k]?=some o):
  dW l st (k+1)=(lZ k o).foldl (stepT (eF (x::xs) o)) (st',fl):=by
 show ny l (dW l st k) k=_
 rw[h];unfold ny;simp only[hk,ho]
theorem fold_next {α β:Type} {f:α→β→α} {l:List β} {k:Nat} {x:β} (h:l[k]?=some x) (s:α):(l.take (k+1)).foldl f s=f ((l.take k).foldl f s) x:=by
 rw[List.take_add_one,h];simp
theorem FlIns.nat {n i:Nat} {x:Ins} (h:FlIns n i x):∃(op m:Int) (a b:Nat),x=⟨op,a,b,m⟩∧(0≤op∧op≤19)∧a<8∧b<8:=by
 obtain⟨op,a,b,m⟩:=x;obtain⟨h1,h2,h3,_,_⟩:=h;dsimp only at h1 h2 h3;exact⟨op,m,a.toNat,b.toNat,by rw[Int.toNat_of_nonneg h2.1,Int.toNat_of_nonneg h3.1],h1,by omega,by omega⟩
def FlowD (w:World) (l:List Ins) (en:Ending) (w':World):Prop:=
 ∃A c B d,en= .returned (.tuple #[.slice A l.length c,.slice B l.length d])∧aj knE w' (fun b=>w.heap.size≤b) (.slice A l.length c) (dG (bQ l))∧aj yE w' (fun b=>w.heap.size≤b) (.slice B l.length d) (aU (bQ l))∧Below w.heap.size w w'
noncomputable def badI (l:List Ins) (i:Nat):Bool:=match (bQ l)[i]?,l[i]? with
 |some (x::xs),some o=> !mayB (x::xs) o
 |_,_=>false
noncomputable def nt (l:List Ins):Option Nat:=(List.range l.length).find? (badI l)
noncomputable def badK:Nat→List (List Ins)→Option (Nat×Nat)
 |_,[]=>none
 |k,l::r=>match nt l with
  |some i=>some (k,i)
  |none=>badK (k+1) r
noncomputable def jf (p:List (List Ins)):Int×Int×Int:=
 if bT p≠0 then(0,0,bT p) else match badK 0 p with
  |some (k,i)=>(k,i,9)
  |none=>(0,0,0)
theorem badL_none {l:List Ins} (h:∀i,i<l.length→badI l i=false):nt l=none:=by
 unfold nt;rw[List.find?_eq_none];intro i hi;simp at hi
 simp[h i hi]
theorem badL_some {l:List Ins} {i:Nat} (hi:i<l.length) (h:badI l i=true) (hb:∀j,j<i→badI l j=false):nt l=some i:=by
 unfold nt;rw[List.find?_range_eq_some];exact⟨h,by simpa using hi,fun j hj=>by simp[hb j hj]⟩
theorem badK_none:∀{p:List (List Ins)} {k:Nat},(∀l∈p,nt l=none)→badK k p=none
 | [],_,_=>rfl
 |l::r,k,h=>by
  unfold badK;rw[h l (by simp)];exact badK_none (fun l hl=>h l (by simp[hl]))
theorem badK_some:∀{p:List (List Ins)} {k n i:Nat} {l:List Ins},p[n]?=some l→nt l=some i→(∀j l',j<n→p[j]?=some l'→nt l'=none)→badK k p=some (k+n,i)
 | [],_,_,_,_,h,_,_=>by simp at h
 |l::r,k,0,i,l',h,hb,_=>by
  simp at h;subst h
  unfold badK;rw[hb];rfl
 |l::r,k,n+1,i,l',h,hb,hj=>by
  unfold badK;rw[hj 0 l (by omega) rfl];have:=badK_some (k:=k+1) (n:=n) (by simpa using h) hb (fun j l2 hjn h2=>hj (j+1) l2 (by omega) (by simpa using h2));show badK (k+1) r=_
  rw[this,show k+1+n=k+(n+1) by omega]
theorem verP_bad {p:List (List Ins)} (h:bT p≠0):jf p=(0,0,bT p):=if_pos h
theorem verP_ok {p:List (List Ins)} (h:bT p=0) (hb:∀l∈p,nt l=none):jf p=(0,0,0):=by
 unfold jf;rw[if_neg (by simp[h]),badK_none hb]
theorem verP_no {p:List (List Ins)} {n i:Nat} {l:List Ins} (h:bT p=0) (hn:p[n]?=some l) (hb:nt l=some i) (hj:∀j l',j<n→p[j]?=some l'→nt l'=none):jf p=((n:Int),(i:Int),9):=by
 unfold jf;rw[if_neg (by simp[h]),badK_some (k:=0) hn hb hj,Nat.zero_add]
theorem badI_none {l:List Ins} {i:Nat} (h:(bQ l)[i]?=some []):badI l i=false:=by
 unfold badI;rw[h]
theorem badI_some {l:List Ins} {i:Nat} {x:Int} {xs:List Int} {o:Ins} (h:(bQ l)[i]?=some (x::xs)) (ho:l[i]?=some o):badI l i= !mayB (x::xs) o:=by
 unfold badI;rw[h,ho]
theorem eqPlaces (d:Nat) (w:World) (xs ys:List Int) (hl:xs.length=ys.length):∀is:List Nat,(∀i∈is,i<xs.length)→
  (forIn (m:=Sem) is ((none:Option Bool),()) fun i __s=>do
   let a ←part 3 (xs.map (Value.int .i64)).toArray (i*1)
   let b ←part 3 (ys.map (Value.int .i64)).toArray (i*1)
   let r ←Op.equalIn (d+1) 3 a b
   if(!r)=true then pure (ForInStep.done (some false,())) else pure (ForInStep.yield (none,()))).run Tryd.prog w= .ok (if ∀i∈is,xs[i]?=ys[i]? then none else some false,()) w:=by
 have hp:∀(zs:List Int) (i:Nat) (z:Int),zs[i]?=some z→(part 3 (zs.map (Value.int .i64)).toArray (i*1)).run Tryd.prog w= .ok (.int .i64 z) w:=fun zs i z hz=>by
  simp[part,go_sem,Tryd.isAgg3,hz]
 intro is;induction is with
 |nil=>intro _;simp
 |cons i is ih=>
  intro hi;obtain⟨a,h1⟩:∃a,xs[i]?=some a:=⟨_,zD (hi i (by simp))⟩;obtain⟨b,h2⟩:∃b,ys[i]?=some b:=⟨_,zD (by have:=hi i (by simp);omega)⟩;simp only[List.forIn_cons,Sem.run_bind,hp _ _ _ h1,hp _ _ _ h2,Result.andThen_ok,run_equalIn_int w d 3 .i64 .i64 a b Tryd.underlying3];by_cases he:a=b
  ·have hb:(a==b)=true:=(by simpa using he);rw[hb];simp only[Bool.not_true,Bool.false_eq_true,if_false,Sem.run_pure,Result.andThen_ok];rw[ih (fun j hj=>hi j (by simp[hj]))];simp[h1,h2,he]
  ·have hb:(a==b)=false:=(by simpa using he);rw[hb];simp only[Bool.not_false,if_true,Sem.run_pure,Result.andThen_ok];rw[if_neg (fun h=>he (by have:=h i (by simp);rw[h1,h2] at this;exact Option.some.inj this))]
theorem knownEq (w:World) (z0 z1 z2 z3 z4 z5 z6 z7 p0 p1 p2 p3 p4 p5 p6 p7:Int):
  (Op.equalIn 10000 92 (.agg #[.int .i64 z0,.int .i64 z1,.int .i64 z2,.int .i64 z3,.int .i64 z4,.int .i64 z5,.int .i64 z6,.int .i64 z7]) (.agg #[.int .i64 p0,.int .i64 p1,.int .i64 p2,.int .i64 p3,.int .i64 p4,.int .i64 p5,.int .i64 p6,.int .i64 p7])).run Tryd.prog w= .ok (decide ([z0,z1,z2,z3,z4,z5,z6,z7]= [p0,p1,p2,p3,p4,p5,p6,p7])) w:=by
 have hs:(sizeOf 3).run Tryd.prog w= .ok 1 w:=Tryd.sizeOf3 w;rw[show(10000:Nat)=9999+1 from rfl,Op.equalIn];simp only[Sem.run_bind,run_underlying Tryd.underlying92,Result.andThen_ok,hs];rw[Std.Legacy.Range.forIn_eq_forIn_range'];have h:=eqPlaces 9998 w [z0,z1,z2,z3,z4,z5,z6,z7] [p0,p1,p2,p3,p4,p5,p6,p7] rfl (List.range' 0 8) (fun i hi=>by simp at hi;exact hi);have hr:List.range' ([:8]:Std.Legacy.Range).start ([:8]:Std.Legacy.Range).size ([:8]:Std.Legacy.Range).step=List.range' 0 8:=(by decide);rw[hr];simp only[List.map_cons,List.map_nil,Nat.reduceAdd] at h;rw[h];simp only[Result.andThen_ok];by_cases he:[z0,z1,z2,z3,z4,z5,z6,z7]= [p0,p1,p2,p3,p4,p5,p6,p7]
 ·rw[if_pos (fun i _=>by rw[he]),decide_eq_true he];rfl
 ·rw[if_neg (fun h=>he (List.ext_getElem? fun i=>by
   by_cases hi:i<8
   ·exact h i (by simp;exact hi)
   ·rw[List.getElem?_eq_none (by simp;omega),List.getElem?_eq_none (by simp;omega)])),decide_eq_false he];rfl
theorem tZ:Tryd.prog.eqGuardType Tryd.prog.depth 92=false:=by kernel_rfl
end
end Go.Proofs.YtdmocjnjbihloaaDoor
