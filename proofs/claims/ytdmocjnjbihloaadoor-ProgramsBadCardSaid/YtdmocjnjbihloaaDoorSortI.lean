/- More of a call's own things: lists of values that a contract hands back, sorted rows, rows of other elements. No condition. Still more of a call's own things: in another order; made rows; rows of eight numbers, and of truth values. No condition. slices.Sort at numbers, on a row of the call's own: the shelf's contract, laid at this translation. No condition. -/
import Derived.Test.YtdmocjnjbihloaaDoorSt
import Derived.Test.YtdmocjnjbihloaaDoorCloneH
import Derived.Test.YtdmocjnjbihloaaDoorRegion
import Derived.OwnWalk
import Derived.Shelf.SortG.Plain
import Derived.Shelf.SortG.SortNone
import Derived.Sort.OwnSortedInts
import Derived.Ground.SlgnProg
namespace Go.Proofs.YtdmocjnjbihloaaDoor
section
open Go.RowKit
theorem rd_iat {w:World} {S:Nat→Prop} {b o n c:Nat} {xs:List Int} (h:aj iE w S (.slice (some ⟨b,o,none⟩) n c) xs) {i:Nat} {x:Int} (hx:xs[i]?=some x):w.cell? ⟨b,o+i,none⟩=some (.int .i64 x):=by
 obtain⟨b',o',e,_,_,y⟩:=h.at_i hx;injection e with e
 injection e with e1 e2
 subst e1 e2;exact y
theorem own_posA {w:World} {base:Nat} {e:TypeId} {size:Nat} {A:Option Addr} {n c:Nat} {xs:List Value} (h:w.ownsRow base e size (.slice A n c) n xs) (hn:0<n):∃g,A=some ⟨g,0,none⟩∧base≤g:=by
 rcases h.2 with⟨h0,h1⟩|⟨g,cap,cur,hv,hg,_⟩
 ·injection h0 with _ h2 _;omega
 ·injection hv with h1 h2 h3
  exact⟨g,h1,hg⟩
section
variable {B:Nat} {w0 w w':World} {R R':List Res}
theorem rE {w:World} {S:Nat→Prop} {base:Nat} {e:TypeId} {v:Value} {xs:List V} (h:dQ vE w S base e v xs):∃A c,v= .slice A xs.length c:=h.form
theorem oG {S:Nat→Prop} {css:List (List Value)} {xs:List V} (h:Held vE w S css xs):css=vcs xs:=by
 apply List.ext_getElem?
 intro i;by_cases hi:i<xs.length
 ·have h1:xs[i]?=some xs[i]:=zD hi;have h2:css[i]?=some (css[i]'(by rw[h.len];exact hi)):=zD _;have h3:=(h.each i _ _ h1 h2).2;replace h3:css[i]'(by rw[h.len];exact hi)= [.int .i64 xs[i].k,.int .i64 xs[i].n]:=h3;rw[h2,h3];simp[vcs,h1]
 ·rw[List.getElem?_eq_none (by have:=h.len;omega),List.getElem?_eq_none (by simp[vcs];omega)]
theorem St.ownV (h:St B w0 w R) (hb:Below w.heap.size w w') {S:Nat→Prop} {v:Value} {xs:List V} (ho:dQ vE w' S w.heap.size 47 v xs) {n:Nat} (hn:n≤w.heap.size):
  St B w0 w' (.row n 47 2 v xs.length (cat (vcs xs))::R)∧au w R w' (.row n 47 2 v xs.length (cat (vcs xs))::R):=by
 obtain⟨css,hH,hr,_⟩:=ho;obtain rfl:=oG hH;exact h.made hb (.row n 47 2 v xs.length (cat (vcs xs))) (fH hr hn (fun _ _=>rfl)) (fun b hb'=>⟨(dJ hr hb').2,(dJ hr hb').1⟩)
theorem St.vCell (h:St B w0 w R) (i:Nat) {base n c g:Nat} {e:TypeId} {xs:List V} (hi:R[i]?=some (.row base e 2 (.slice (some ⟨g,0,none⟩) n c) n (cat (vcs xs)))) {k:Nat} {x:V} (hk:xs[k]?=some x):
  w.cell? ⟨g,k*2,none⟩=some (.int .i64 x.k)∧w.cell? ⟨g,k*2+1,none⟩=some (.int .i64 x.n):=by
 have hs:∀cs∈vcs xs,cs.length=2:=fun cs hc=>by
  obtain⟨y,_,rfl⟩:=List.mem_map.1 hc;rfl
 have hc:(vcs xs)[k]?=some [.int .i64 x.k,.int .i64 x.n]:=(by simp[vcs,hk]);have h0:=h.mW i hi hs (j:=0) hc rfl;have h1:=h.mW i hi hs (j:=1) hc rfl;rw[Nat.add_zero] at h0;exact⟨h0,h1⟩
theorem vcs_setN {xs:List V} {k:Nat} {x:V} (hk:xs[k]?=some x) (y:Int):(cat (vcs xs)).set (k*2+1) (.int .i64 y)=cat (vcs (xs.set k ⟨x.k,y⟩)):=by
 have hs:∀cs∈vcs xs,cs.length=2:=fun cs hc=>by
  obtain⟨y,_,rfl⟩:=List.mem_map.1 hc;rfl
 have hc:(vcs xs)[k]?=some [.int .i64 x.k,.int .i64 x.n]:=(by simp[vcs,hk]);have:=jG (i:=k) (j:=1) (.int .i64 y) hs hc (by decide);unfold cat;rw[←this];simp[vcs,List.map_set]
theorem St.outV (h:St B w0 w R) (i:Nat) {base n c:Nat} {A:Option Addr} {xs:List V} (hi:R[i]?=some (.row base 47 2 (.slice A n c) n (cat (vcs xs)))) (hn:n=xs.length) (hs:xs.length*16≤140737488355328) (S:Nat→Prop):
  dQ vE w S base 47 (.slice A n c) xs:=by
 subst hn;exact⟨vcs xs,gY xs,h.own i hi,hs⟩
theorem St.ownRow (h:St B w0 w R) (hb:Below w.heap.size w w') {e:TypeId} {size n:Nat} {v:Value} {xs:List Value} (ho:w'.ownsRow w.heap.size e size v n xs) {m:Nat} (hm:m≤w.heap.size):
  St B w0 w' (.row m e size v n xs::R)∧au w R w' (.row m e size v n xs::R):=
 h.made hb (.row m e size v n xs) (fH ho hm (fun _ _=>rfl)) (fun _b hb'=>⟨(dJ ho hb').2,(dJ ho hb').1⟩)
def ics (l:List Int):List (List Value):=l.map (fun x=>[.int .i64 x])
theorem pM:∀l:List Int,cat (ics l)=l.map (.int .i64)
 | []=>rfl
 |x::l=>by
  have:=pM l;unfold cat ics at*;simp[this]
theorem ics_held {S:Nat→Prop} (l:List Int):Held iE w S (ics l) l:=⟨by simp[ics],fun i x cs hx hc=>by
 simp[ics,hx] at hc
 subst hc;exact⟨rfl,rfl⟩⟩
theorem St.outI (h:St B w0 w R) (i:Nat) {base n m:Nat} {e:TypeId} {v:Value} {xs:List Int} (hi:R[i]?=some (.row base e 1 v m (xs.map (.int .i64)))) (hm:m=xs.length) (hs:xs.length*8≤140737488355328) (hn:n≤base):
  aj iE w (Fr n (R.eraseIdx i)) v xs:=by
 rw[←pM] at hi;exact h.rdOut (E:=iE) i hi rfl hm (ics_held xs) hs hn (by decide)
theorem St.iCell (h:St B w0 w R) (i:Nat) {base n c g:Nat} {e:TypeId} {xs:List Int} (hi:R[i]?=some (.row base e 1 (.slice (some ⟨g,0,none⟩) n c) n (xs.map (.int .i64)))) {k:Nat} {x:Int} (hk:xs[k]?=some x):
  w.cell? ⟨g,k,none⟩=some (.int .i64 x):=by
 have:=(h.own i hi).cells (g:=g) rfl k (.int .i64 x) (by simp[hk]);rw[addr_add,Nat.zero_add] at this;exact this
theorem St.iPut (h:St B w0 w R) (i k:Nat) (x:Int) {base n c g:Nat} {e:TypeId} {xs:List Int} (hi:R[i]?=some (.row base e 1 (.slice (some ⟨g,0,none⟩) n c) n (xs.map (.int .i64)))):
  St B w0 (w.setCell ⟨g,k,none⟩ (.int .i64 x)) (R.set i (.row base e 1 (.slice (some ⟨g,0,none⟩) n c) n ((xs.set k x).map (.int .i64))))∧au w R (w.setCell ⟨g,k,none⟩ (.int .i64 x)) (R.set i (.row base e 1 (.slice (some ⟨g,0,none⟩) n c) n ((xs.set k x).map (.int .i64)))):=by
 have:=h.rowPut i k (.int .i64 x) hi;rw[←List.map_set] at this;exact this
end
end
section
open Go.RowKit
section
variable {B:Nat} {w0 w w':World} {R R':List Res}
theorem St.perm (h:St B w0 w R) (hp:R.Perm R'):St B w0 w R'∧au w R w R':=
 ⟨⟨h.below,fun r hr=>h.ok r (hp.mem_iff.2 hr),fun r hr=>h.foot r (hp.mem_iff.2 hr),(hp.pairwise_iff (fun hrs b hs hr=>hrs b hr hs)).1 h.apart,h.base⟩,
  fun _ _ hf=>⟨fun r hr=>hf r (hp.mem_iff.2 hr),rfl⟩⟩
theorem St.drewN9 (h:St B w0 w R) (n:Nat):St B w0 (w.drewN n) R∧au w R (w.drewN n) R:=
 ⟨⟨⟨h.below.os,h.below.tape,h.below.output,h.below.size,h.below.block⟩,fun r hr=>r.stab (w:=w) (fun _ _=>rfl) (h.ok r hr),h.foot,h.apart,h.base⟩,fun _ _ hf=>⟨hf,rfl⟩⟩
theorem St.ne (h:St B w0 w R) (i j:Nat) (hij:i<j) {r s:Res} (hi:R[i]?=some r) (hj:R[j]?=some s) {b c:Nat} (hb:r.foot b) (hc:s.foot c):b≠c:=fun e=>by
 subst e;obtain⟨hil,e1⟩:=zE.1 hi;obtain⟨hjl,e2⟩:=zE.1 hj;have:=List.pairwise_iff_getElem.1 h.apart i j hil hjl hij b;rw[e1,e2] at this;exact this hb hc
theorem made_list {z:Array Value} {u:Value} (hs:0<z.size) (hz:∀i,i<z.size→z[i]! =u) (n:Nat):(madeCells z n).toList=List.replicate n u:=by
 apply List.ext_getElem?
 intro i;simp only[madeCells,Array.toList_map,Array.toList_range,List.getElem?_map,List.getElem?_replicate];by_cases hi:i<n
 ·simp[hi]
  exact hz _ (Nat.mod_lt _ hs)
 ·rw[List.getElem?_eq_none (by simp;omega)];simp[hi]
structure Alike1 (z:Array Value) (u:Value):Prop where
 pos:0<z.size
 all:∀i,i<z.size→z[i]! =u
theorem kQ {w:World} {base:Nat} {e:TypeId} {size n m:Nat} {v:Value} {z:Array Value} {u:Value} (a:Alike1 z u) (h:w.ownsRow base e size v n (madeCells z m).toList):w.ownsRow base e size v n (List.replicate m u):=by
 rw[made_list a.pos a.all] at h;exact h
theorem um:Alike1 (Value.bool false).cells (.bool false):=⟨by decide,fun i h=>by
 match i,h with
 |0,_=>rfl⟩
theorem alike_int:Alike1 (Value.int .i64 0).cells (.int .i64 0):=⟨by decide,fun i h=>by
 match i,h with
 |0,_=>rfl⟩
theorem alike_slice:Alike1 (Value.slice none 0 0).cells (.slice none 0 0):=⟨by decide,fun i h=>by
 match i,h with
 |0,_=>rfl⟩
theorem alike_v:Alike1 (Value.agg #[.int .i64 0,.int .i64 0]).cells (.int .i64 0):=⟨by decide,fun i h=>by
 match i,h with
 |0,_=>rfl
 |1,_=>rfl⟩
theorem alike_n:Alike1 (Value.agg #[.int .i64 0,.int .i64 0,.int .i64 0,.int .i64 0]).cells (.int .i64 0):=⟨by decide,fun i h=>by
 match i,h with
 |0,_=>rfl
 |1,_=>rfl
 |2,_=>rfl
 |3,_=>rfl⟩
theorem sV:Alike1 (Value.agg #[.int .i64 0,.int .i64 0,.int .i64 0,.int .i64 0,.int .i64 0,.int .i64 0,.int .i64 0,.int .i64 0]).cells (.int .i64 0):=⟨by decide,fun i h=>by
 match i,h with
 |0,_=>rfl
 |1,_=>rfl
 |2,_=>rfl
 |3,_=>rfl
 |4,_=>rfl
 |5,_=>rfl
 |6,_=>rfl
 |7,_=>rfl⟩
def bG (ks:List (List Int)):List (List Value):=ks.map (fun k=>k.map (.int .i64))
theorem uo {ks:List (List Int)} {m:Nat} (h:∀k∈ks,k.length=m):∀cs∈bG ks,cs.length=m:=fun cs hc=>by
 obtain⟨k,hk,rfl⟩:=List.mem_map.1 hc;simpa using h k hk
theorem rowsK_set (ks:List (List Int)) (t:Nat) (k:List Int):(bG ks).set t (k.map (.int .i64))=bG (ks.set t k):=by simp[bG,List.map_set]
theorem rowsK_zero (n m:Nat):cat (bG (List.replicate n (List.replicate m 0)))=List.replicate (n*m) (.int .i64 0):=by
 induction n with
 |zero=>simp[bG,cat]
 |succ n ih=>
  unfold bG cat at*;rw[List.replicate_succ,List.map_cons,List.flatten_cons,ih,List.map_replicate,Nat.succ_mul,Nat.add_comm];simp
theorem St.bg (h:St B w0 w R) (i:Nat) {base n c g m:Nat} {e:TypeId} {ks:List (List Int)} (hi:R[i]?=some (.row base e m (.slice (some ⟨g,0,none⟩) n c) n (cat (bG ks)))) (hs:∀k∈ks,k.length=m) {t:Nat} {k:List Int} (ht:ks[t]?=some k) {j:Nat} {x:Int} (hj:k[j]?=some x):
  w.cell? ⟨g,t*m+j,none⟩=some (.int .i64 x):=
 h.mW i hi (uo hs) (k:=t) (cs:=k.map (.int .i64)) (by simp[bG,ht]) (by simp[hj])
theorem St.kPut (h:St B w0 w R) (i t j:Nat) (x:Int) {base n c g m:Nat} {e:TypeId} {ks:List (List Int)} (hi:R[i]?=some (.row base e m (.slice (some ⟨g,0,none⟩) n c) n (cat (bG ks)))) (hs:∀k∈ks,k.length=m) {k:List Int} (ht:ks[t]?=some k) (hj:j<m):
  St B w0 (w.setCell ⟨g,t*m+j,none⟩ (.int .i64 x)) (R.set i (.row base e m (.slice (some ⟨g,0,none⟩) n c) n (cat (bG (ks.set t (k.set j x))))))∧
   au w R (w.setCell ⟨g,t*m+j,none⟩ (.int .i64 x)) (R.set i (.row base e m (.slice (some ⟨g,0,none⟩) n c) n (cat (bG (ks.set t (k.set j x)))))):=by
 have h1:=h.rowPut i (t*m+j) (.int .i64 x) hi;have h2:(cat (bG ks)).set (t*m+j) (.int .i64 x)=cat (bG (ks.set t (k.set j x))):=by
  unfold cat;rw[←jG (.int .i64 x) (uo hs) (show(bG ks)[t]?=some (k.map (.int .i64)) by simp[bG,ht]) hj,←List.map_set,rowsK_set]
 rw[h2] at h1;exact h1
theorem St.kPut8 (h:St B w0 w R) (i t:Nat) {base n c g:Nat} {e:TypeId} {ks:List (List Int)} (hi:R[i]?=some (.row base e 8 (.slice (some ⟨g,0,none⟩) n c) n (cat (bG ks)))) (hs:∀k∈ks,k.length=8) (ht:t<ks.length) (x0 x1 x2 x3 x4 x5 x6 x7:Int):
  St B w0 ((((((((w.setCell ⟨g,t*8,none⟩ (.int .i64 x0)).setCell ⟨g,t*8+1,none⟩ (.int .i64 x1)).setCell ⟨g,t*8+2,none⟩ (.int .i64 x2)).setCell ⟨g,t*8+3,none⟩ (.int .i64 x3)).setCell ⟨g,t*8+4,none⟩ (.int .i64 x4)).setCell ⟨g,t*8+5,none⟩ (.int .i64 x5)).setCell ⟨g,t*8+6,none⟩ (.int .i64 x6)).setCell ⟨g,t*8+7,none⟩ (.int .i64 x7))
    (R.set i (.row base e 8 (.slice (some ⟨g,0,none⟩) n c) n (cat (bG (ks.set t [x0,x1,x2,x3,x4,x5,x6,x7])))))∧
   au w R ((((((((w.setCell ⟨g,t*8,none⟩ (.int .i64 x0)).setCell ⟨g,t*8+1,none⟩ (.int .i64 x1)).setCell ⟨g,t*8+2,none⟩ (.int .i64 x2)).setCell ⟨g,t*8+3,none⟩ (.int .i64 x3)).setCell ⟨g,t*8+4,none⟩ (.int .i64 x4)).setCell ⟨g,t*8+5,none⟩ (.int .i64 x5)).setCell ⟨g,t*8+6,none⟩ (.int .i64 x6)).setCell ⟨g,t*8+7,none⟩ (.int .i64 x7))
    (R.set i (.row base e 8 (.slice (some ⟨g,0,none⟩) n c) n (cat (bG (ks.set t [x0,x1,x2,x3,x4,x5,x6,x7])))))∧
   ((((((((w.setCell ⟨g,t*8,none⟩ (.int .i64 x0)).setCell ⟨g,t*8+1,none⟩ (.int .i64 x1)).setCell ⟨g,t*8+2,none⟩ (.int .i64 x2)).setCell ⟨g,t*8+3,none⟩ (.int .i64 x3)).setCell ⟨g,t*8+4,none⟩ (.int .i64 x4)).setCell ⟨g,t*8+5,none⟩ (.int .i64 x5)).setCell ⟨g,t*8+6,none⟩ (.int .i64 x6)).setCell ⟨g,t*8+7,none⟩ (.int .i64 x7)).heap.size=w.heap.size:=by
 have hil:i<R.length:=(zE.1 hi).1;obtain⟨k,hk⟩:∃k,ks[t]?=some k:=⟨_,zD ht⟩;have hk8:=hs k (zF hk);let rw_:List Int→Res:=fun q=> .row base e 8 (.slice (some ⟨g,0,none⟩) n c) n (cat (bG (ks.set t q)))
 let Inv:World→List Int→Prop:=fun w1 q=>q.length=8∧St B w0 w1 (R.set i (rw_ q))∧au w R w1 (R.set i (rw_ q))∧w1.heap.size=w.heap.size
 have step:∀(j:Nat) (x:Int) (w1:World) (q:List Int),j<8→Inv w1 q→Inv (w1.setCell ⟨g,t*8+j,none⟩ (.int .i64 x)) (q.set j x):=fun j x w1 q hj ⟨hq,h1,h2,h3⟩=>by
  have hx:(R.set i (rw_ q))[i]?=some (rw_ q):=List.getElem?_set_self hil;have hs':∀k'∈ks.set t q,k'.length=8:=fun k' hk'=>by
   rcases List.mem_or_eq_of_mem_set hk' with h|rfl
   ·exact hs _ h
   ·exact hq
  have h4:=h1.kPut i t j x hx hs' (k:=q) (List.getElem?_set_self ht) hj;rw[List.set_set,List.set_set] at h4;exact⟨by simpa using hq,h4.1,h2.trans (by omega) h4.2,by rw[←h3];simp⟩
 have h0:Inv w k:=by
  have e1:ks.set t k=ks:=(by rw[←(zE.1 hk).2,List.set_getElem_self]);have e2:R.set i (rw_ k)=R:=by
   show R.set i (.row base e 8 (.slice (some ⟨g,0,none⟩) n c) n (cat (bG (ks.set t k))))=R
   rw[e1,←(zE.1 hi).2,List.set_getElem_self]
  show k.length=8∧St B w0 w (R.set i (rw_ k))∧au w R w (R.set i (rw_ k))∧w.heap.size=w.heap.size
  rw[e2];exact⟨hk8,h,.refl,rfl⟩
 have h8:=step 7 x7 _ _ (by decide) (step 6 x6 _ _ (by decide) (step 5 x5 _ _ (by decide) (step 4 x4 _ _ (by decide) (step 3 x3 _ _ (by decide) (step 2 x2 _ _ (by decide) (step 1 x1 _ _ (by decide) (step 0 x0 _ _ (by decide) h0)))))));have hA:(((((((k.set 0 x0).set 1 x1).set 2 x2).set 3 x3).set 4 x4).set 5 x5).set 6 x6).set 7 x7= [x0,x1,x2,x3,x4,x5,x6,x7]:=by
  match k,hk8 with
  | [a0,a1,a2,a3,a4,a5,a6,a7],_=>simp
 rw[hA] at h8;exact h8.2
theorem St.yCell (h:St B w0 w R) (i:Nat) {base n c g:Nat} {e:TypeId} {bs:List Bool} (hi:R[i]?=some (.row base e 1 (.slice (some ⟨g,0,none⟩) n c) n (bs.map .bool))) {t:Nat} {b:Bool} (ht:bs[t]?=some b):w.cell? ⟨g,t,none⟩=some (.bool b):=by
 have:=(h.own i hi).cells (g:=g) rfl t (.bool b) (by simp[ht]);rw[addr_add,Nat.zero_add] at this;exact this
theorem St.yPut (h:St B w0 w R) (i t:Nat) (b:Bool) {base n c g:Nat} {e:TypeId} {bs:List Bool} (hi:R[i]?=some (.row base e 1 (.slice (some ⟨g,0,none⟩) n c) n (bs.map .bool))):
  St B w0 (w.setCell ⟨g,t,none⟩ (.bool b)) (R.set i (.row base e 1 (.slice (some ⟨g,0,none⟩) n c) n ((bs.set t b).map .bool)))∧au w R (w.setCell ⟨g,t,none⟩ (.bool b)) (R.set i (.row base e 1 (.slice (some ⟨g,0,none⟩) n c) n ((bs.set t b).map .bool))):=by
 have:=h.rowPut i t (.bool b) hi;rw[←List.map_set] at this;exact this
end
end
section
open Go.RowKit Go.Shelf
def sortL_ren:Go.Shelf.Ren:=⟨fun |53=>98|64=>104|63=>103|78=>118|79=>119|70=>109|71=>110|72=>111|73=>112|74=>113|75=>114|59=>115|76=>116|77=>117|88=>123|89=>124|90=>125|91=>126|92=>127|68=>128|96=>129|n=>n,fun |22=>40|23=>3|3=>3|51=>108|0=>0|67=>181|69=>183|4=>4|61=>175|60=>174|44=>156|5=>5|9=>9|75=>186|79=>190|83=>192|84=>144|n=>n,fun|n=>n⟩
theorem sortL:Go.Proofs.SlLaysN.n53 Tryd.prog sortL_ren:={
 mixed:=by kernel_rfl
 f53:=⟨Tryd.f98.name,by decide,Tryd.func98.trans (congrArg some (by kernel_rfl))⟩
 f59:=⟨Tryd.f115.name,by decide,Tryd.func115.trans (congrArg some (by kernel_rfl))⟩
 f63:=⟨Tryd.f103.name,by decide,Tryd.func103.trans (congrArg some (by kernel_rfl))⟩
 f64:=Tryd.func104.trans (congrArg some (by kernel_rfl))
 f68:=⟨Tryd.f128.name,by decide,Tryd.func128.trans (congrArg some (by kernel_rfl))⟩
 f70:=⟨Tryd.f109.name,by decide,Tryd.func109.trans (congrArg some (by kernel_rfl))⟩
 f71:=⟨Tryd.f110.name,by decide,Tryd.func110.trans (congrArg some (by kernel_rfl))⟩
 f72:=⟨Tryd.f111.name,by decide,Tryd.func111.trans (congrArg some (by kernel_rfl))⟩
 f73:=⟨Tryd.f112.name,by decide,Tryd.func112.trans (congrArg some (by kernel_rfl))⟩
 f74:=⟨Tryd.f113.name,by decide,Tryd.func113.trans (congrArg some (by kernel_rfl))⟩
 f75:=⟨Tryd.f114.name,by decide,Tryd.func114.trans (congrArg some (by kernel_rfl))⟩
 f76:=⟨Tryd.f116.name,by decide,Tryd.func116.trans (congrArg some (by kernel_rfl))⟩
 f77:=⟨Tryd.f117.name,by decide,Tryd.func117.trans (congrArg some (by kernel_rfl))⟩
 f78:=Tryd.func118.trans (congrArg some (by kernel_rfl))
 f79:=Tryd.func119.trans (congrArg some (by kernel_rfl))
 f88:=⟨Tryd.f123.name,by decide,Tryd.func123.trans (congrArg some (by kernel_rfl))⟩
 f89:=Tryd.func124.trans (congrArg some (by kernel_rfl))
 f90:=Tryd.func125.trans (congrArg some (by kernel_rfl))
 f91:=⟨Tryd.f126.name,by decide,Tryd.func126.trans (congrArg some (by kernel_rfl))⟩
 f92:=⟨Tryd.f127.name,by decide,Tryd.func127.trans (congrArg some (by kernel_rfl))⟩
 f96:=⟨Tryd.f129.name,by decide,Tryd.func129.trans (congrArg some (by kernel_rfl))⟩
 t0:=Tryd.underlying0
 a0:=Tryd.isAgg0
 z0:=Tryd.sizeOf0
 v0:=Tryd.zeroValue0
 t3:=Tryd.underlying3
 a3:=Tryd.isAgg3
 z3:=Tryd.sizeOf3
 v3:=Tryd.zeroValue3
 t4:=Tryd.underlying4
 a4:=Tryd.isAgg4
 z4:=Tryd.sizeOf4
 v4:=Tryd.zeroValue4
 t5:=Tryd.underlying5
 a5:=Tryd.isAgg5
 z5:=Tryd.sizeOf5
 v5:=Tryd.zeroValue5
 t9:=Tryd.underlying9
 a9:=Tryd.isAgg9
 z9:=Tryd.sizeOf9
 v9:=Tryd.zeroValue9
 t22:=Tryd.underlying40
 a22:=Tryd.isAgg40
 z22:=Tryd.sizeOf40
 v22:=Tryd.zeroValue40
 t23:=Tryd.underlying3
 a23:=Tryd.isAgg3
 z23:=Tryd.sizeOf3
 v23:=Tryd.zeroValue3
 t44:=Tryd.underlying156
 a44:=Tryd.isAgg156
 z44:=Tryd.sizeOf156
 v44:=Tryd.zeroValue156
 t51:=Tryd.underlying108
 a51:=Tryd.isAgg108
 z51:=Tryd.sizeOf108
 v51:=Tryd.zeroValue108
 t60:=Tryd.underlying174
 a60:=Tryd.isAgg174
 z60:=Tryd.sizeOf174
 v60:=Tryd.zeroValue174
 t61:=Tryd.underlying175
 a61:=Tryd.isAgg175
 z61:=Tryd.sizeOf175
 v61:=Tryd.zeroValue175
 t67:=Tryd.underlying181
 a67:=Tryd.isAgg181
 z67:=Tryd.sizeOf181
 v67:=Tryd.zeroValue181
 t69:=Tryd.underlying183
 a69:=Tryd.isAgg183
 z69:=Tryd.sizeOf183
 v69:=Tryd.zeroValue183
 t75:=Tryd.underlying186
 a75:=Tryd.isAgg186
 z75:=Tryd.sizeOf186
 v75:=Tryd.zeroValue186
 t79:=Tryd.underlying190
 a79:=Tryd.isAgg190
 z79:=Tryd.sizeOf190
 v79:=Tryd.zeroValue190
 t83:=Tryd.underlying192
 a83:=Tryd.isAgg192
 z83:=Tryd.sizeOf192
 v83:=Tryd.zeroValue192
 t84:=Tryd.underlying144
 a84:=Tryd.isAgg144
 z84:=Tryd.sizeOf144
 v84:=Tryd.zeroValue144}
theorem sortI_any (base:Nat) (A:Option Addr) (c:Nat) (l:List Int) (w:World) (h:w.ownsRow base 3 1 (.slice A l.length c) l.length (l.map (.int .i64))) (hl:l.length<4611686018427387904):
  Calls Tryd.prog 98 #[.slice A l.length c] w fun e w'=>e= .returned (.tuple #[])∧w.grownBy w' (Value.slice A l.length c).ownBlock∧w'.ownsRow base 3 1 (.slice A l.length c) l.length ((l.mergeSort fun x y=>decide (x≤y)).map (.int .i64)):=by
 cases l with
 |nil=>
  refine(show Calls Tryd.prog 98 #[.slice A 0 c] w _ from AnyG.slices_Sort_int_none sortL A c w).mono ?_;rintro e w' ⟨rfl,rfl⟩;exact⟨rfl,World.grownBy.refl _ _,by simpa using h⟩
 |cons x l=>
  rcases h.2 with⟨h0,h1⟩|⟨g,cap,cur,hv,hg,hb,hn,hm,hs,ht⟩
  ·simp at h1
  ·injection hv with h1 h2 h3
   subst h1 h3;refine(show Calls Tryd.prog 98 #[.slice (some ⟨g,0,none⟩) (x::l).length c] w _ from AnyG.slices_Sort_int sortL g 0 c (x::l) w (holds_of_blockI hb (by simpa using ht)) (lK hb) hl).mono ?_;rintro e w' ⟨rfl,n,os,rfl⟩;exact⟨rfl,grownBy_sortedI _,ownsRow_sortedI (by simp) hg hb hn hm hs⟩
end
end Go.Proofs.YtdmocjnjbihloaaDoor
