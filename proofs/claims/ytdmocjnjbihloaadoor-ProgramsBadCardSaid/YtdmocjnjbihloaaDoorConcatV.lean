/- The walks of verify.Join, of the document's answer to it, and of the number from 0 to many - 1. No condition beside that the numbers are numbers of 64 bits. An append to a slice of the call's own, whatever slice is appended, a nil one too. No condition beside sizes. Four cells of a block of the call's own are written. No condition. Appends to a row of the call's own, of whatever slice; rows of instructions; slices whose elements are laid in one literal. No condition beside sizes. The walks of slices.Grow and slices.Concat at values. Condition: they are not long. -/
import Derived.Test.YtdmocjnjbihloaaDoorHeapB
import Derived.Test.YtdmocjnjbihloaaDoorActCopy
import Derived.Deep.AppendSrc
import Derived.Test.YtdmocjnjbihloaaDoorSortI
import Derived.Test.YtdmocjnjbihloaaDoorCloneH
import Derived.Lib.AppendZeros
namespace Go.Proofs.YtdmocjnjbihloaaDoor
section
open Go.RowKit
def lv (t:Int):Bool:=t==2||t==3
def eu (a b:Int):Int:=if a=b then a else if lv a&&lv b then 2 else 0
def bI (n many:Int):Int:=(if n<0 then -(n+1) else n) % many
set_option maxHeartbeats 400000 in
theorem uu (t:Int) (w:World):Calls Tryd.prog 75 #[.int .i64 t] w fun e w'=>e= .returned (.bool (lv t))∧w=w':=by
 go_enter Tryd.func75,Tryd.ntmps75
 go_wp2
 all_goals
  go_ret
  exact⟨ret_bool (by simp_all [lv]),rfl⟩
set_option maxHeartbeats 1000000 in
theorem join_any (a b:Int) (w:World):Calls Tryd.prog 66 #[.int .i64 a,.int .i64 b] w fun e w'=>e= .returned (.int .i64 (eu a b))∧w=w':=by
 by_cases h:a=b
 ·subst h;go_enter Tryd.func66,Tryd.ntmps66
  go_wp2
  go_ret
  exact⟨ret_int (by simp[eu]),rfl⟩
 ·have hb:(a==b)=false:=(by simpa using h);have Hh:=zG h;clear h;go_enter Tryd.func66,Tryd.ntmps66
  go_wp2_with (refine(uu _ _).mono ?_;rintro e w' ⟨rfl,rfl⟩)
  all_goals
   go_ret
   exact⟨ret_int (by simp_all [eu,Hh.out]),rfl⟩
set_option maxHeartbeats 400000 in
theorem iA (n many:Int) (h1: -9223372036854775808≤n) (h2:n≤9223372036854775807) (hm:1≤many) (hm2:many≤9223372036854775807) (w:World):
  Calls Tryd.prog 19 #[.int .i64 n,.int .i64 many] w fun e w'=>e= .returned (.int .i64 (bI n many))∧w=w':=by
 go_enter Tryd.func19,Tryd.ntmps19
 go_wp2
 ·have hn:n<0:=(by assumption);go_ret
  exact⟨ret_int (by rw[bI,if_pos hn,←Int.neg_tmod,Int.tmod_eq_emod_of_nonneg (by omega)]),rfl⟩
 ·have hn:0≤n:=(by assumption);go_ret
  exact⟨ret_int (by rw[bI,if_neg (by omega)]),rfl⟩
theorem joins_agree (x y z:Int) (hx:0≤x∧x<4) (hy:0≤y∧y<4) (hz:0≤z∧z<4):
  eu x y=eu y x∧eu x x=x∧eu (eu x y) z=eu x (eu y z)∧eu (eu x y) y=eu x y:=by
 have h:∀n:Int,0≤n∧n<4→n=0∨n=1∨n=2∨n=3:=fun n _=>by omega
 rcases h x hx with rfl|rfl|rfl|rfl<;>rcases h y hy with rfl|rfl|rfl|rfl<;>rcases h z hz with rfl|rfl|rfl|rfl<;>decide
theorem jk (n many:Int) (hm:1≤many):0≤bI n many∧bI n many<many:=
 ⟨Int.emod_nonneg _ (by omega),Int.emod_lt_of_pos _ (by omega)⟩
end
section
open Go.RowKit
theorem grown_refl (w:World) (row:Option Nat):w.grownBy w row:=⟨rfl,rfl,rfl,Nat.le_refl _,fun _ _ _=>rfl⟩
theorem tF {P:Program} (w:World) (t ty e:TypeId) (i:TypeInfo) (ht:P.underlying t=some (.slice e)) (hi:P.info? e=some i) (B:Option Addr) (n c cx:Nat) (hn:n≤c):
  (Builtin.append_ #[t,t] ty #[.slice B n c,.slice none 0 cx]).run P w= .ok (.slice B n c) w:=by
 have h1:=run_firstCells_none (P:=P) w i.size 0 0 cx;have h2:∀W:World,(Builtin.lenOf (.slice none 0 cx)).run P W= .ok 0 W:=fun _=>rfl
 cases B<;>simp[Builtin.append_,run_underlying ht,sizeOf,typeInfo,hi,hn,h1,h2,storeCells]
theorem wpList_append_any {P:Program} (w:World) {ops:Array Oper} {rest:List Oper} {o:Oper} {a:Act} {Q:Exit→Act→World→Prop} (hgd:o.guard=none) (s x:Operand) (t:TypeId)
  (ho:o.op= .call {callee:= .builtin .append,args:=#[s,x],argTypes:=#[t,t]})
  (base:Nat) (e:TypeId) (i:TypeInfo) (z:Value) (size bytes:Nat) (ht:P.underlying t=some (.slice e)) (hi:P.info? e=some i) (hz:i.zero=some z)
  (hsize:i.size=size) (hby:i.bytes=bytes) (hzs:z.cells.size=size) (hsz:0<size)
  (v:Value) (n:Nat) (xs:List Value) (hs:a.eval s=v) (hown:w.ownsRow base e size v n xs)
  (A:Option Addr) (m c:Nat) (news:List Value) (hx:a.eval x= .slice A m c) (hl:news.length=m*size) (hnews:∀ad,A=some ad→∀(j:Nat) (u:Value),news[j]?=some u→w.cell? (ad.add j)=some u) (hnil:A=none→m=0) (h1:∀u∈news,u.oneCell'=true)
  (h63:n+m≤maxLen) (hbytes:(n+m)*bytes≤140737488355328) (hbase:base≤w.heap.size)
  (h:∀v' w',w'.ownsRow base e size v' (n+m) (xs++news)→w.grownBy w' v.ownBlock→wpList P ops Q rest (a.put o.dst v') w'):wpList P ops Q (o::rest) a w:=by
 cases A with
 |some ad=>exact wpList_append_own w hgd s x t ho base e i z size bytes ht hi hz hsize hby hzs hsz v n xs hs hown ad m c news hx hl (hnews ad rfl) h1 h63 hbytes hbase (fun v' w' h2 h3 _=>h v' w' h2 h3)
 |none=>
  have hm:=hnil rfl;subst hm;have hn:news= []:=List.eq_nil_of_length_eq_zero (by rw[hl];simp);subst hn;refine wpList_plain hgd fun K hK=>?_;obtain⟨B,cb,rfl⟩:=bZ hown;have hnc:n≤cb:=by
   rcases hown.2 with⟨h,h0⟩|⟨g,cap,_,h,_,_,h2,_⟩
   ·cases h;omega
   ·cases h;exact h2
  have hrun:=tF (P:=P) w t o.type e i ht hi B n cb c hnc;unfold Oper.wp;simp[execOp,ho,resolve,invoke,builtin,hs,hx,hrun,Result.andThen]
  exact hK _ _ (h _ _ (by simpa using hown) (grown_refl _ _))
end
section
section
open Go.RowKit
section
variable {B:Nat} {w0 w:World} {R:List Res}
theorem St.put4 (h:St B w0 w R) (i:Nat) (u0 u1 u2 u3:Value) {b:Nat} {cs:Array Value} {t:TypeId} (hi:R[i]?=some (.blk b cs t)) (hs:cs.size=4):
  St B w0 ((((w.setCell ⟨b,0,none⟩ u0).setCell ⟨b,1,none⟩ u1).setCell ⟨b,2,none⟩ u2).setCell ⟨b,3,none⟩ u3) (R.set i (.blk b #[u0,u1,u2,u3] t))∧
   au w R ((((w.setCell ⟨b,0,none⟩ u0).setCell ⟨b,1,none⟩ u1).setCell ⟨b,2,none⟩ u2).setCell ⟨b,3,none⟩ u3) (R.set i (.blk b #[u0,u1,u2,u3] t)):=by
 have hil:i<R.length:=(zE.1 hi).1;obtain⟨h1,k1⟩:=h.put i 0 u0 hi;obtain⟨h2,k2⟩:=h1.put i 1 u1 (b:=b) (cs:=cs.setIfInBounds 0 u0) (t:=t) (by simp[hil]);obtain⟨h3,k3⟩:=h2.put i 2 u2 (b:=b) (cs:=(cs.setIfInBounds 0 u0).setIfInBounds 1 u1) (t:=t) (by simp[hil]);obtain⟨h4,k4⟩:=h3.put i 3 u3 (b:=b) (cs:=((cs.setIfInBounds 0 u0).setIfInBounds 1 u1).setIfInBounds 2 u2) (t:=t) (by simp[hil]);have hc:(((cs.setIfInBounds 0 u0).setIfInBounds 1 u1).setIfInBounds 2 u2).setIfInBounds 3 u3= #[u0,u1,u2,u3]:=by
  match cs,hs with
  |⟨[x,y,z,v]⟩,_=>rfl
 simp only[List.set_set] at h2 k2 h3 k3 h4 k4;rw[hc] at h4 k4;exact⟨h4,((k1.trans (by simp) k2).trans (by simp) k3).trans (by simp) k4⟩
end
end
section
open Go.RowKit
section
variable {B:Nat} {w0 w w':World} {R:List Res}
theorem fC {P:Program} {ops:Array Oper} {rest:List Oper} {o:Oper} {a:Act} {Q:Exit→Act→World→Prop} (hgd:o.guard=none) (s x:Operand) (t:TypeId)
  (ho:o.op= .call {callee:= .builtin .append,args:=#[s,x],argTypes:=#[t,t]}) {e:TypeId} {z:Value} {size bytes:Nat} (ht:P.underlying t=some (.slice e))
  (hinfo:(P.info? e).map (fun i=>(i.zero,i.size,i.bytes))=some (some z,size,bytes)) (hzs:z.cells.size=size) (hsz:0<size)
  (h:St B w0 w R) (i:Nat) {base:Nat} {v:Value} {n:Nat} {xs:List Value} (hi:R[i]?=some (.row base e size v n xs)) (hs:a.eval s=v)
  (A:Option Addr) (m c:Nat) (news:List Value) (hx:a.eval x= .slice A m c) (hl:news.length=m*size) (hnews:∀ad,A=some ad→∀(j:Nat) (u:Value),news[j]?=some u→w.cell? (ad.add j)=some u) (hnil:A=none→m=0) (h1:∀u∈news,u.oneCell'=true)
  (h63:n+m≤maxLen) (hbytes:(n+m)*bytes≤140737488355328) (hbase:base≤w.heap.size)
  (hK:∀(A':Option Addr) (c':Nat) (w':World),St B w0 w' (R.set i (.row base e size (.slice A' (n+m) c') (n+m) (xs++news)))→au w R w' (R.set i (.row base e size (.slice A' (n+m) c') (n+m) (xs++news)))→w.heap.size≤w'.heap.size→
   wpList P ops Q rest (a.put o.dst (.slice A' (n+m) c')) w'):wpList P ops Q (o::rest) a w:=by
 obtain⟨i0,hi0,hz0,hz1,hz2⟩:=info_parts hinfo
 cases A with
 |some ad=>
  refine wpList_append_own_at w hgd s x t ho base e i0 z size bytes ht hi0 hz0 hz1 hz2 hzs hsz v n xs hs (h.own i hi) ad m c news hx hl (hnews ad rfl) h1 h63 hbytes hbase (fun v' w' hown hg _ hl'=>?_);obtain⟨A',c',rfl⟩:=bZ hown;obtain⟨hT,hk⟩:=h.rowGrown i hi hg hown hl';exact hK A' c' w' hT hk hg.size
 |none=>
  have hm:=hnil rfl;subst hm;have hn:news= []:=List.eq_nil_of_length_eq_zero (by rw[hl];simp);subst hn;refine wpList_plain hgd fun K hK'=>?_;obtain⟨B',cb,rfl⟩:=bZ (h.own i hi);have hnc:n≤cb:=by
   rcases (h.own i hi).2 with⟨h,h0⟩|⟨g,cap,_,h,_,_,h2,_⟩
   ·cases h;omega
   ·cases h;exact h2
  have hrun:=tF (P:=P) w t o.type e i0 ht hi0 B' n cb c hnc;unfold Oper.wp;simp[execOp,ho,resolve,invoke,builtin,hs,hx,hrun,Result.andThen]
  have hset:R.set i (.row base e size (.slice B' n cb) n xs)=R:=by
   obtain⟨hl0,he⟩:=zE.1 hi;rw[←he,List.set_getElem_self]
  have:=hK B' cb w (by simpa[hset] using h) (by simpa[hset] using au.refl) (Nat.le_refl _);simp only[Nat.add_zero] at this;exact hK' _ _ this
def nc (x:Ins):List Value:=[.int .i64 x.op,.int .i64 x.a,.int .i64 x.b,.int .i64 x.n]
def ncs (l:List Ins):List (List Value):=l.map nc
theorem ncs_append (l m:List Ins):cat (ncs l)++cat (ncs m)=cat (ncs (l++m)):=by simp[ncs,cat]
theorem ncs_len (l:List Ins):(cat (ncs l)).length=l.length*4:=by
 induction l with
 |nil=>rfl
 |cons x l ih=>simp[cat,ncs,nc] at*;omega
theorem ncs_one (l:List Ins):∀u∈cat (ncs l),u.oneCell'=true:=fun u hu=>by
 obtain⟨cs,hc,h⟩:=List.mem_flatten.1 hu;obtain⟨x,_,rfl⟩:=List.mem_map.1 hc;simp[nc] at h
 rcases h with rfl|rfl|rfl|rfl<;>rfl
theorem nc_one (x:Ins):∀u∈nc x,u.oneCell'=true:=fun u hu=>by
 simp[nc] at hu
 rcases hu with rfl|rfl|rfl|rfl<;>rfl
theorem jN {S:Nat→Prop} (l:List Ins):Held eQ w S (ncs l) l:=⟨by simp[ncs],fun i x cs hx hc=>by
 simp[ncs,hx] at hc
 subst hc;exact⟨rfl,rfl⟩⟩
theorem held_ncs {S:Nat→Prop} {css:List (List Value)} {xs:List Ins} (h:Held eQ w S css xs):css=ncs xs:=by
 apply List.ext_getElem?
 intro i;rcases Nat.lt_or_ge i xs.length with hl|hg
 ·have hx:xs[i]?=some xs[i]:=zD hl;have hc:css[i]?=some (css[i]'(by rw[h.len];exact hl)):=zD _;have hr:css[i]'(by rw[h.len];exact hl)=nc xs[i]:=(h.each i _ _ hx hc).2;rw[hc,hr,ncs,List.getElem?_map,hx];rfl
 ·rw[List.getElem?_eq_none (by rw[h.len];exact hg),List.getElem?_eq_none (by simpa[ncs] using hg)]
theorem pI {S:Nat→Prop} {A:Option Addr} {n c:Nat} {xs:List Ins} (h:aj eQ w S (.slice A n c) xs):∀ad,A=some ad→∀(j:Nat) (u:Value),(cat (ncs xs))[j]?=some u→w.cell? (ad.add j)=some u:=fun ad hA j u hu=>by
 obtain⟨css,hH,hc⟩:=h.held;obtain rfl:=held_ncs hH;exact hc ad hA j u hu
theorem rd_none {α:Type} {E:El α} {S:Nat→Prop} {A:Option Addr} {n c:Nat} {xs:List α} (h:aj E w S (.slice A n c) xs) (hA:A=none):n=0:=by
 obtain⟨A',c',hv,h1,_,_,h4⟩:=h
 cases hv
 cases xs with
 |nil=>rfl
 |cons x xs=>
  obtain⟨b,o,hb,_⟩:=h4 (by simp);rw[hA] at hb
  cases hb
theorem rT {α:Type} {E:El α} {S:Nat→Prop} {b:Nat} {cs:Array Value} {t:TypeId} {fr:Nat×Nat} {css:List (List Value)} {xs:List α} (hb:w.heap[b]?=some (.cells cs t fr)) (hS:S b) (hH:Held E w S css xs) (hc:cs.toList=cat css) (hs:xs.length*E.bytes≤140737488355328) (hm:xs.length≤maxLen) (n:Nat) (hn:n=xs.length):
  aj E w S (.slice (some ⟨b,0,none⟩) n n) xs:=by
 subst hn;refine⟨_,_,rfl,Nat.le_refl _,hm,hs,fun _=>⟨b,0,rfl,hS,fun i x hx=>?_⟩⟩;have hil:i<xs.length:=(zE.1 hx).1;have hcs:css[i]?=some (css[i]'(by rw[hH.len];exact hil)):=zD _;obtain⟨h1,h2⟩:=hH.each i x _ hx hcs;refine⟨_,h1,h2,fun j u hu=>?_⟩;have:=jT hH.size hcs hu;simp only[World.cell?,hb,Nat.zero_add];rw[←Array.getElem?_toList,hc];exact this
theorem Held.cons {α:Type} {E:El α} {S:Nat→Prop} {cs:List Value} {css:List (List Value)} {x:α} {xs:List α} (hl:cs.length=E.size) (hr:E.rd w S cs x) (h:Held E w S css xs):Held E w S (cs::css) (x::xs):=
 ⟨by simp[h.len],fun i y ds hy hd=>by
  cases i with
  |zero=>simp at hy hd;subst hy;subst hd;exact⟨hl,hr⟩
  |succ i=>exact h.each i y ds (by simpa using hy) (by simpa using hd)⟩
end
end
end
section
open Go.RowKit
abbrev vvE:=slE vE (by decide)
def sumL (L:List (List V)):Nat:=(L.map List.length).sum
theorem sumL_take {L:List (List V)} {k:Nat} {l:List V} (h:L[k]?=some l):sumL (L.take (k+1))=sumL (L.take k)+l.length:=by
 unfold sumL;rw[List.take_add_one,h];simp
theorem sumL_le (L:List (List V)) (k:Nat):sumL (L.take k)≤sumL L:=by
 unfold sumL;conv=>rhs;rw[←List.take_append_drop k L,List.map_append,List.sum_append]
 omega
def ky (L:List (List V)) (k:Nat):List V:=(L.take k).flatten
theorem catL_all (L:List (List V)):ky L L.length=L.flatten:=by unfold ky;rw[List.take_length]
theorem flat_take {L:List (List V)} {k:Nat} {l:List V} (h:L[k]?=some l):ky L k++l=ky L (k+1):=by
 unfold ky;rw[List.take_add_one,h];simp
theorem flatV_len (L:List (List V)):L.flatten.length=sumL L:=by simp[sumL,List.length_flatten]
theorem catL_len (L:List (List V)) (k:Nat):(ky L k).length≤sumL L:=by
 unfold ky;rw[flatV_len];exact sumL_le L k
theorem vcs_len (l:List V):(cat (vcs l)).length=l.length*2:=by
 induction l with
 |nil=>rfl
 |cons x l ih=>simp[cat,vcs] at*;omega
theorem vcs_uno (l:List V):∀u∈cat (vcs l),u.oneCell'=true:=fun u hu=>by
 obtain⟨cs,hc,h⟩:=List.mem_flatten.1 hu;obtain⟨x,_,rfl⟩:=List.mem_map.1 hc;simp at h
 rcases h with rfl|rfl<;>rfl
theorem rdVc {w:World} {S:Nat→Prop} {A:Option Addr} {n c:Nat} {xs:List V} (h:aj vE w S (.slice A n c) xs):∀ad,A=some ad→∀(j:Nat) (u:Value),(cat (vcs xs))[j]?=some u→w.cell? (ad.add j)=some u:=fun ad hA j u hu=>by
 obtain⟨css,hH,hc⟩:=h.held;obtain rfl:=oG hH;exact hc ad hA j u hu
theorem vcs_app (l m:List V):cat (vcs l)++cat (vcs m)=cat (vcs (l++m)):=by simp[vcs,cat]
theorem growV_any (n:Nat) (hn:n≤1000) (w:World):Calls Tryd.prog 92 #[.slice none 0 0,.int .i64 n] w fun e w'=>∃A c,e= .returned (.slice A 0 c)∧w'.ownsRow w.heap.size 47 2 (.slice A 0 c) 0 (cat (vcs []))∧Below w.heap.size w w':=by
 obtain⟨iv,hiv,hv0,hv1,hv2⟩:=info_parts oZ;by_cases h0:n=0
 ·subst h0;go_enter Tryd.func92,Tryd.ntmps92
  go_wp2
  go_ret
  exact⟨none,0,rfl,⟨rfl,.inl ⟨rfl,rfl⟩⟩,Below.refl _ _⟩
 ·have hpos:0<n:=(by omega);have i1:¬(n:Int)<0:=(by omega);have i2:(n:Int)>0:=(by omega);have hA:=Go.Lib.run_append_nil_zeros (P:=Tryd.prog) w 37 3 37 47 iv (.agg #[.int .i64 0,.int .i64 0]) .i64 .i64 Tryd.underlying37 Tryd.underlying3 hiv hv0 n hpos (by rw[hv1];omega) (by omega) (by rw[hv2];omega);obtain⟨G,hG⟩:∃G,grownCap w n 0 47=G:=⟨_,rfl⟩;have hGn:n≤G:=(by rw[←hG];exact grownCap_ge w _ _ _);have hGm:G≤maxLen:=(by rw[←hG];exact grownCap_le_maxLen w n 0 47 (by unfold maxLen;omega));rw[hG] at hA;clear hG;go_enter Tryd.func92,Tryd.ntmps92
  go_wp2_with (at_builtin;refine Go.Lib.wpList_append_run _ rfl _ _ _ _ rfl _ _ rfl rfl _ _ hA ?_)
  go_ret
  have hsz:(Builtin.zeroCells #[Value.int .i64 0,.int .i64 0] n++Builtin.zeroCells #[Value.int .i64 0,.int .i64 0] (G - n)).size=G*2:=by
   simp[Builtin.zeroCells]
   omega
  generalize Builtin.zeroCells #[Value.int .i64 0,.int .i64 0] n++Builtin.zeroCells #[Value.int .i64 0,.int .i64 0] (G - n)=cs at hsz ⊢;exact⟨some ⟨w.heap.size,0,none⟩,G,rfl,⟨rfl,.inr ⟨w.heap.size,G,cs,rfl,Nat.le_refl _,by show(w.heap.push _)[w.heap.size]?=_;simp,Nat.zero_le _,hGm,hsz,by simp;rfl⟩⟩,((Below.refl _ _).alloc (Nat.le_refl _) _).drew⟩
set_option maxRecDepth 100000 in
set_option maxHeartbeats 8000000 in
theorem sN (S:Nat→Prop) (P:Option Addr) (c:Nat) (L:List (List V)) (w:World) (hs:L.length≤10∧sumL L≤1000) (hr:aj vvE w S (.slice P L.length c) L):
  Calls Tryd.prog 74 #[.slice P L.length c] w fun e w'=>∃v,e= .returned v∧dQ vE w' (fun _=>False) w.heap.size 47 v L.flatten∧Below w.heap.size w w':=by
 have Hs:=zG hs;obtain⟨-,h1,h2,h3⟩:=hr.fw;have Hr:=zG hr;clear hr hs h3;have T0:St w.heap.size w w []:=St.start w (Nat.le_refl _);have HT:=zG T0;have hz:w.heap.size≤w.heap.size:=(by simp);clear T0;replace Hr:Hid (aj vvE w (Fr 0 []) (.slice P L.length c) L):=zG (aj.pool (E:=vvE) Hr.out (by show 0<1;omega) HT.out);go_enter Tryd.func74,Tryd.ntmps74
 go_wp2_with fail;go_loopw [11,3] (fun i z wl1=>∃k:Nat,i= .int .i64 k∧z= .int .i64 ((sumL (L.take k):Nat):Int)∧k≤L.length∧St w.heap.size w wl1 []∧aj vvE wl1 (Fr 0 []) (.slice P L.length c) L) (fun i _ _=>L.length - (intOf i).toNat)
 case atStart=>
  refine⟨0,?_,?_,?_,HT.out,Hr.out⟩
  ·rfl
  ·rfl
  ·exact Nat.zero_le _
 case round=>
  generalize wr=wl1 at*;clear HT Hr;obtain⟨k,rfl,rfl,hk,ht,pHr⟩:=hrel;have HT:=zG ht;have Hr:Hid (aj vvE wl1 (Fr 0 []) (.slice P L.length c) L):=zG pHr;clear ht pHr;by_cases hlt:k<L.length
  ·obtain⟨l,hl⟩:∃l,L[k]?=some l:=⟨L[k],zD hlt⟩;obtain⟨fb,fo,lb,lc,rfl,_,_,y0,hrl⟩:=Hr.at_s hl;have hsum:=sumL_take (k:=k) hl;have hall:=sumL_le L (k+1);have hS:=Hs.out;have HL:=zG hl;have i1:(0:Int)≤(k:Int):=(by omega);have i2:(k:Int)<(L.length:Int):=(by omega);clear hl;have hz1:sumL (L.take k)+l.length≤1000:=(by omega);have Hsum:=zG hsum;generalize sumL (L.take k)=z at*;clear hrl hall hS hsum;have i3:¬(z:Int)+(l.length:Int)<0:=(by omega);go_wp2_with fail;go_roundw
   case rel=>
    refine⟨k+1,?_,?_,?_,HT.out,Hr.out⟩
    ·go_num
    ·rw[Hsum.out];go_num
    ·omega
   case measure=>simp[intOf];omega
  ·have hkk:k=L.length:=(by omega);subst hkk;rw[List.take_length];have hS1:=Hs.out.2;obtain⟨z,hzz⟩:∃z,sumL L=z:=⟨_,rfl⟩;rw[hzz];have hz1:z≤1000:=(by omega);have Hz:=zG hzz;clear hzz;have i2:¬((L.length:Nat):Int)<(L.length:Int):=(by omega);clear hk hlt;go_wp2_with fail;refine(growV_any z hz1 _).mono ?_;rintro en Wg ⟨Ag,cg,rfl,hown,hb⟩;replace⟨HT,Hr⟩:=sp1 (HT.ownRow hb hown (m:=w.heap.size) HT.base) Hr.s;clear hb hown;go_wp2_with fail;go_loopw [27,6] (fun i vs wl2=>∃(k:Nat) (vo:Value),(fun R9:List Res=>i= .int .i64 k∧vo=vs∧k≤L.length∧St w.heap.size w wl2 R9∧aj vvE wl2 (Fr 0 R9) (.slice P L.length c) L) [.row w.heap.size 47 2 vo ((ky L k).length) (cat (vcs (ky L k)))]) (fun i _ _=>L.length - (intOf i).toNat)
   case atStart=>
    refine⟨0,.slice Ag 0 cg,?_,?_,?_,HT.out,Hr.out⟩
    ·rfl
    ·rfl
    ·exact Nat.zero_le _
   case round=>
    generalize wr=wl2 at*;clear HT Hr;obtain⟨k,vo,rfl,rfl,hk,ht,pHr⟩:=hrel;have HT:=zG ht;have Hr:Hid (aj vvE wl2 (Fr 0 [.row w.heap.size 47 2 vo ((ky L k).length) (cat (vcs (ky L k)))]) (.slice P L.length c) L):=zG pHr;clear ht pHr;have hcl:=catL_len L k;obtain⟨Ao,co,rfl⟩:=bZ (HT.own 0 rfl);have hsz:=HT.base;replace Hr:Hid (aj vvE wl2 (Fr 0 [.row w.heap.size 47 2 (.slice Ao (ky L k).length co) ((ky L k).length) (cat (vcs (ky L k)))]) (.slice P L.length c) L):=Hr;by_cases hlt:k<L.length
    ·obtain⟨l,hl⟩:∃l,L[k]?=some l:=⟨L[k],zD hlt⟩;obtain⟨fb,fo,lb,lc,rfl,_,_,y0,hrl⟩:=Hr.at_s hl;have hsum:=sumL_take (k:=k) hl;have hall:=sumL_le L (k+1);have hS:=Hs.out;have HL:=zG hl;have i1:(0:Int)≤(k:Int):=(by omega);have i2:(k:Int)<(L.length:Int):=(by omega);clear hl;have Hrl:=zG hrl;have hfl:=flat_take (k:=k) HL.out;have hln:(ky L k).length+l.length=(ky L (k+1)).length:=(by rw[←hfl];simp);have hcl1:=catL_len L (k+1);have hfl1:(ky L k).length+l.length≤1000:=(by rw[hln];omega);clear hrl;go_wp2_with (at_builtin;go_loud (refine fC rfl (.tmp 31) (.tmp 32) _ rfl (e:=47) (size:=2) (bytes:=16) Tryd.underlying37 oZ rfl (by omega) HT.out 0 rfl rfl lb l.length lc (cat (vcs l)) rfl (vcs_len _) (rdVc Hrl.out) (fun h=>rd_none Hrl.out h) (vcs_uno _) (by unfold maxLen;omega) (by omega) HT.base ?next))
     case next=>
      intro A3 c4 W5 T' K' hs3;try rw[vcs_app] at T' K'
      try rw[hfl] at T' K'
      try rw[hln] at T' K'
      replace T':St w.heap.size w W5 [.row w.heap.size 47 2 (.slice A3 ((ky L (k+1)).length) c4) ((ky L (k+1)).length) (cat (vcs (ky L (k+1))))]:=T';replace K':au wl2 [.row w.heap.size 47 2 (.slice Ao (ky L k).length co) ((ky L k).length) (cat (vcs (ky L k)))] W5 [.row w.heap.size 47 2 (.slice A3 ((ky L (k+1)).length) c4) ((ky L (k+1)).length) (cat (vcs (ky L (k+1))))]:=K';replace HT:=zG T';replace Hr:=zG (Hr.move (by show 0<1;omega) K');clear T' K';clear Hrl;go_wp2_with fail;go_roundw
      case rel=>
       refine⟨k+1,.slice A3 ((ky L (k+1)).length) c4,?_,?_,?_,HT.out,Hr.out⟩
       ·go_num
       ·rfl
       ·omega
      case measure=>simp[intOf];omega
    ·have hkk:k=L.length:=(by omega);subst hkk;have i2:¬((L.length:Nat):Int)<(L.length:Int):=(by omega);clear hk hlt;go_wp2_with fail;go_ret
     exact⟨_,rfl,⟨vcs L.flatten,gY _,by rw[←catL_all];exact HT.own 0 rfl,by have:=Hs.out;rw[flatV_len];show sumL L*16≤_;omega⟩,HT.below⟩
end
end Go.Proofs.YtdmocjnjbihloaaDoor
