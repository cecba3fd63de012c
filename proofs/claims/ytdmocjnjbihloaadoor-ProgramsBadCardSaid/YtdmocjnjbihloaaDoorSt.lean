/- What a call has of its own: blocks, rows and whatever else it may write, each apart from the others; what it reads beside these stays as it is. No condition. -/
import Derived.Test.YtdmocjnjbihloaaDoorActCopy
import Derived.Maps.AppendAt
namespace Go.Proofs.YtdmocjnjbihloaaDoor
open Go.RowKit Go.Maps
theorem dQ.rdBlk {α:Type} {E:El α} {w:World} {S:Nat→Prop} {xs:List α} {base:Nat} {e:TypeId} {v:Value} (h:dQ E w S base e v xs):aj E w (fun b=>S b∨v.ownBlock=some b) v xs:=by
 obtain⟨css,hH,hown,hb⟩:=h;rcases hown.2 with⟨rfl,h0⟩|⟨g,cap,cur,rfl,hg,_,hn,hm,_⟩
 ·refine⟨none,0,by rw[h0],by omega,Nat.zero_le _,hb,fun hne=>absurd (List.eq_nil_of_length_eq_zero h0) hne⟩
 ·refine⟨_,cap,rfl,hn,hm,hb,fun _=>⟨g,0,rfl,.inr rfl,fun i x hx=>?_⟩⟩;have hil:i<xs.length:=(zE.1 hx).1;have hc:css[i]?=some (css[i]'(by rw[hH.len];exact hil)):=zD _;obtain⟨h1,h2⟩:=hH.each i x _ hx hc;refine⟨_,h1,E.keep (fun b _ hS=>⟨.inl hS,rfl⟩) h2,fun j u hu=>?_⟩;have:=hown.cells (g:=g) rfl _ u (jT hH.size hc hu);rw[←this,addr_add,Nat.zero_add,Nat.zero_add]
theorem gD.heldS {w:World} {S:Nat→Prop} {base:Nat} {v:Value} {os:List Ob} {vs:List Value} (h:gD w S base v os vs os.length):Held obE w (fun b=>base≤b∧v.ownBlock≠some b) (rowsOf vs os) os:=by
 refine⟨rowsOf_len h.len,fun i o cs ho hcs=>?_⟩;have hu:vs[i]?=some (vs[i]'(by rw[h.len];exact(zE.1 ho).1)):=zD _;rw[nA ho hu] at hcs;obtain rfl:=Option.some.inj hcs;refine⟨rfl,_,rfl,?_⟩;have hd:=h.done i o _ (zE.1 ho).1 ho hu;refine hd.rdBlk.keep (by decide) (fun b _ hb=>⟨?_,rfl⟩);rcases hb with hb|hb
 ·exact hb.elim
 ·refine⟨(hd.lt hb).2,fun e=>?_⟩;obtain⟨css,_,hr,_⟩:=hd;exact own_ne h.row hr (by decide) e hb
inductive Res where
 |blk (b:Nat) (cs:Array Value) (t:TypeId)
 |row (base:Nat) (e:TypeId) (size:Nat) (v:Value) (n:Nat) (xs:List Value)
 |any (foot:Nat→Prop) (ok:World→Prop) (stab:∀w w':World,(∀b,foot b→w'.heap[b]?=w.heap[b]?)→ok w→ok w')
def Res.foot:Res→Nat→Prop
 | .blk b _ _=>fun k=>k=b
 | .row _ _ _ v _ _=>fun k=>v.ownBlock=some k
 | .any f _ _=>f
def Res.ok:Res→World→Prop
 | .blk b cs t=>fun w=>w.heap[b]?=some (.cells cs t (0,0))
 | .row base e size v n xs=>fun w=>w.ownsRow base e size v n xs
 | .any _ p _=>p
theorem Res.stab {r:Res} {w w':World} (h:∀b,r.foot b→w'.heap[b]?=w.heap[b]?) (ho:r.ok w):r.ok w':=by
 cases r with
 |blk b cs t=>exact(h b rfl).trans ho
 |row base e size v n xs=>exact fH ho (Nat.le_refl _) h
 |any f p s=>exact s w w' h ho
def cat (css:List (List Value)):List Value:=css.flatten
structure St (B:Nat) (w0 w:World) (R:List Res):Prop where
 below:Below B w0 w
 ok:∀r∈R,r.ok w
 foot:∀r∈R,∀b,r.foot b→B≤b∧b<w.heap.size
 apart:R.Pairwise (fun r s=>∀b,r.foot b→¬s.foot b)
 base:B≤w.heap.size
def Free (R:List Res) (b:Nat):Prop:=∀r∈R,¬r.foot b
def au (w:World) (R:List Res) (w':World) (R':List Res):Prop:=∀b,b<w.heap.size→Free R b→Free R' b∧w'.heap[b]?=w.heap[b]?
def StRules (w:World):List Res→Prop
 | []=>True
 | .blk b cs _::r=>(∀i:Nat,w.cell? ⟨b,i,none⟩=cs[i]?)∧(∀i:Nat,w.frozen? ⟨b,i,none⟩=false)∧StRules w r
 | .row .. ::r=>StRules w r
 | .any .. ::r=>StRules w r
section
variable {B:Nat} {w0 w w':World} {R R':List Res}
theorem au.refl:au w R w R:=fun _ _ h=>⟨h,rfl⟩
theorem au.trans {w2:World} {R2:List Res} (h:au w R w' R') (hs:w.heap.size≤w'.heap.size) (h':au w' R' w2 R2):au w R w2 R2:=fun b hb hf=>
 let ⟨h1,h2⟩:=h b hb hf
 let ⟨h3,h4⟩:=h' b (Nat.lt_of_lt_of_le hb hs) h1
 ⟨h3,h4.trans h2⟩
theorem St.start (w:World) (hB:B≤w.heap.size):St B w w []:=⟨Below.refl _ _,fun _ h=>by simp at h,fun _ h=>by simp at h,.nil,hB⟩
theorem St.rules (h:St B w0 w R):StRules w R:=by
 have h1:=h.ok;clear h;induction R with
 |nil=>trivial
 |cons r R ih=>
  have ih':=ih (fun x hx=>h1 x (List.mem_cons_of_mem _ hx));have h2:=h1 r (List.mem_cons_self ..)
  cases r with
  |blk b cs t=>
   replace h2:w.heap[b]?=some (.cells cs t (0,0)):=h2;exact⟨fun i=>by simp[World.cell?,h2],fun i=>by simp[World.frozen?,h2],ih'⟩
  |row=>exact ih'
  |any=>exact ih'
theorem St.at_ (h:St B w0 w R) (i:Nat) {r:Res} (hi:R[i]?=some r):r.ok w:=h.ok r (zF hi)
theorem St.in_ (h:St B w0 w R) (i:Nat) {r:Res} (hi:R[i]?=some r) {b:Nat} (hb:r.foot b):B≤b∧b<w.heap.size:=h.foot r (zF hi) b hb
theorem St.heap (h:St B w0 w R) (i:Nat) {b:Nat} {cs:Array Value} {t:TypeId} (hi:R[i]?=some (.blk b cs t)):w.heap[b]?=some (.cells cs t (0,0)):=h.at_ i hi
theorem St.own (h:St B w0 w R) (i:Nat) {base:Nat} {e:TypeId} {size:Nat} {v:Value} {n:Nat} {xs:List Value} (hi:R[i]?=some (.row base e size v n xs)):w.ownsRow base e size v n xs:=h.at_ i hi
theorem St.call (h:St B w0 w R) (hb:Below w.heap.size w w'):St B w0 w' R∧au w R w' R:=
 ⟨⟨h.below.trans (hb.mono h.base),fun r hr=>r.stab (fun b hf=>hb.block b (h.foot r hr b hf).2) (h.ok r hr),
  fun r hr b hf=>⟨(h.foot r hr b hf).1,Nat.lt_of_lt_of_le (h.foot r hr b hf).2 hb.size⟩,h.apart,Nat.le_trans h.base hb.size⟩,
  fun b hlt hf=>⟨hf,hb.block b hlt⟩⟩
theorem St.drew (h:St B w0 w R):St B w0 w.drew R:=⟨h.below.drew,fun r hr=>r.stab (w:=w) (fun _ _=>rfl) (h.ok r hr),h.foot,h.apart,h.base⟩
theorem au.drew:au w R w.drew R:=fun _ _ h=>⟨h,rfl⟩
theorem St.drew' (h:St B w0 w R):St B w0 w.drew R∧au w R w.drew R:=⟨h.drew,.drew⟩
theorem St.made (h:St B w0 w R) (hb:Below w.heap.size w w') (r:Res) (ho:r.ok w') (hf:∀b,r.foot b→w.heap.size≤b∧b<w'.heap.size):St B w0 w' (r::R)∧au w R w' (r::R):=by
 obtain⟨⟨g1,g2,g3,g4,g5⟩,k⟩:=h.call hb;refine⟨⟨g1,fun x hx=>?_,fun x hx b hb'=>?_,List.pairwise_cons.2 ⟨fun s hs b hr hs'=>?_,g4⟩,g5⟩,fun b hlt hfr=>⟨fun x hx hx'=>?_,(k b hlt hfr).2⟩⟩
 ·rcases List.mem_cons.1 hx with rfl|hx
  ·exact ho
  ·exact g2 x hx
 ·rcases List.mem_cons.1 hx with rfl|hx
  ·exact⟨Nat.le_trans h.base (hf b hb').1,(hf b hb').2⟩
  ·exact g3 x hx b hb'
 ·have h1:=(hf b hr).1;have h2:=(h.foot s hs b hs').2;omega
 ·rcases List.mem_cons.1 hx with rfl|hx
  ·have:=(hf b hx').1;omega
  ·exact hfr x hx hx'
theorem St.new (h:St B w0 w R) (cs:Array Value) (t:TypeId):St B w0 (w.alloc (.cells cs t)) (.blk w.heap.size cs t::R)∧au w R (w.alloc (.cells cs t)) (.blk w.heap.size cs t::R):=
 h.made ((Below.refl _ _).alloc (Nat.le_refl _) _) (.blk w.heap.size cs t) (heap_alloc_new w _) (fun b hb=>by
  replace hb:b=w.heap.size:=hb;subst hb;simp)
theorem St.new' (h:St B w0 w R) (cs:Array Value) (t:TypeId) (n:Nat) (hn:n=w.heap.size:=by first|(simp;done)|rfl):St B w0 (w.alloc (.cells cs t)) (.blk n cs t::R)∧au w R (w.alloc (.cells cs t)) (.blk n cs t::R):=by
 subst hn;exact h.new cs t
theorem St.alloc (h:St B w0 w R) (o:Obj):St B w0 (w.alloc o) R∧au w R (w.alloc o) R:=h.call ((Below.refl _ _).alloc (Nat.le_refl _) _)
theorem free_tail {r:Res} {b:Nat} (h:Free (r::R) b):Free R b:=fun x hx=>h x (List.mem_cons_of_mem _ hx)
theorem St.turn (h:St B w0 w R) (i:Nat) {r:Res} (hi:R[i]?=some r) (r':Res) (hs:w.heap.size≤w'.heap.size) (hos:w'.os=w.os) (htp:w'.tape=w.tape) (hop:w'.output=w.output)
  (hk:∀b,b<w.heap.size→¬r.foot b→w'.heap[b]?=w.heap[b]?) (ho:r'.ok w') (hf:∀b,r'.foot b→r.foot b∨(w.heap.size≤b∧b<w'.heap.size)):
  St B w0 w' (R.set i r')∧au w R w' (R.set i r'):=by
 have hil:i<R.length:=(zE.1 hi).1;have hap:∀(j k:Nat) (x y:Res),R[j]?=some x→R[k]?=some y→j≠k→∀b,x.foot b→¬y.foot b:=by
  intro j k x y hx hy hne b hb hb';obtain⟨hj,ex⟩:=zE.1 hx;obtain⟨hk',ey⟩:=zE.1 hy;rcases Nat.lt_or_gt_of_ne hne with hlt|hgt
  ·have:=List.pairwise_iff_getElem.1 h.apart j k hj hk' hlt;rw[ex,ey] at this;exact this b hb hb'
  ·have:=List.pairwise_iff_getElem.1 h.apart k j hk' hj hgt;rw[ex,ey] at this;exact this b hb' hb
 have hget:∀(j:Nat) (x:Res),(R.set i r')[j]?=some x→(j=i∧x=r')∨(j≠i∧R[j]?=some x):=by
  intro j x hx;rw[List.getElem?_set] at hx;by_cases hij:i=j
  ·subst hij;simp[hil] at hx
   exact .inl ⟨rfl,hx.symm⟩
  ·simp[hij] at hx
   exact .inr ⟨Ne.symm hij,hx⟩
 have hr:=h.foot r (zF hi);refine⟨⟨h.below.trans ⟨hos,htp,hop,hs,fun k hkB=>hk k (Nat.lt_of_lt_of_le hkB h.base) (fun hrk=>by have:=(hr k hrk).1;omega)⟩,fun x hx=>?_,fun x hx b hb=>?_,?_,Nat.le_trans h.base hs⟩,fun b hlt hfr=>⟨fun x hx hx'=>?_,hk b hlt (hfr r (zF hi))⟩⟩
 ·obtain⟨j,hj⟩:=List.getElem?_of_mem hx;rcases hget j x hj with⟨-,rfl⟩|⟨hne,hj'⟩
  ·exact ho
  ·exact x.stab (fun b hb=>hk b (h.foot x (zF hj') b hb).2 (hap j i x r hj' hi hne b hb)) (h.ok x (zF hj'))
 ·obtain⟨j,hj⟩:=List.getElem?_of_mem hx;rcases hget j x hj with⟨-,rfl⟩|⟨hne,hj'⟩
  ·rcases hf b hb with h1|⟨h1,h2⟩
   ·exact⟨(hr b h1).1,Nat.lt_of_lt_of_le (hr b h1).2 hs⟩
   ·exact⟨Nat.le_trans h.base h1,h2⟩
  ·have:=h.foot x (zF hj') b hb;exact⟨this.1,Nat.lt_of_lt_of_le this.2 hs⟩
 ·refine List.pairwise_iff_getElem.2 fun j k hj hk' hlt b hb hb'=>?_;have ej:(R.set i r')[j]?=some ((R.set i r')[j]):=zD hj;have ek:(R.set i r')[k]?=some ((R.set i r')[k]):=zD hk';rcases hget j _ ej with⟨rfl,e1⟩|⟨n1,e1⟩
  ·rcases hget k _ ek with⟨rfl,-⟩|⟨n2,e2⟩
   ·omega
   ·rw[e1] at hb;rcases hf b hb with h1|⟨h1,-⟩
    ·exact hap k j _ r e2 hi n2 b hb' h1
    ·have:=(h.foot _ (zF e2) b hb').2;omega
  ·rcases hget k _ ek with⟨rfl,e2⟩|⟨n2,e2⟩
   ·rw[e2] at hb';rcases hf b hb' with h1|⟨h1,-⟩
    ·exact hap j k _ r e1 hi n1 b hb h1
    ·have:=(h.foot _ (zF e1) b hb).2;omega
   ·exact hap j k _ _ e1 e2 (by omega) b hb hb'
 ·obtain⟨j,hj⟩:=List.getElem?_of_mem hx;rcases hget j x hj with⟨-,rfl⟩|⟨hne,hj'⟩
  ·rcases hf b hx' with h1|⟨h1,-⟩
   ·exact hfr r (zF hi) h1
   ·omega
  ·exact hfr x (zF hj') hx'
theorem St.put (h:St B w0 w R) (i:Nat) (k:Nat) (u:Value) {b:Nat} {cs:Array Value} {t:TypeId} (hi:R[i]?=some (.blk b cs t)):
  St B w0 (w.setCell ⟨b,k,none⟩ u) (R.set i (.blk b (cs.setIfInBounds k u) t))∧au w R (w.setCell ⟨b,k,none⟩ u) (R.set i (.blk b (cs.setIfInBounds k u) t)):=
 h.turn i hi (.blk b (cs.setIfInBounds k u) t) (by simp) rfl rfl rfl (fun b' _ hne=>Below.heap_setCell _ _ _ _ hne) (jK (h.heap i hi) u) (fun _ hb=> .inl hb)
theorem St.dt (h:St B w0 w R) (i:Nat) (u v:Value) {b:Nat} {cs:Array Value} {t:TypeId} (hi:R[i]?=some (.blk b cs t)) (hs:cs.size=2):
  St B w0 ((w.setCell ⟨b,0,none⟩ u).setCell ⟨b,1,none⟩ v) (R.set i (.blk b #[u,v] t))∧au w R ((w.setCell ⟨b,0,none⟩ u).setCell ⟨b,1,none⟩ v) (R.set i (.blk b #[u,v] t)):=by
 have hil:i<R.length:=(zE.1 hi).1;obtain⟨h1,k1⟩:=h.put i 0 u hi;obtain⟨h2,k2⟩:=h1.put i 1 v (b:=b) (cs:=cs.setIfInBounds 0 u) (t:=t) (by simp[hil]);have hc:(cs.setIfInBounds 0 u).setIfInBounds 1 v= #[u,v]:=by
  match cs,hs with
  |⟨[x,y]⟩,_=>rfl
 rw[List.set_set,hc] at h2 k2;exact⟨h2,k1.trans (by simp) k2⟩
theorem St.rowPut (h:St B w0 w R) (i:Nat) (k:Nat) (u:Value) {base:Nat} {e:TypeId} {size g n c:Nat} {xs:List Value} (hi:R[i]?=some (.row base e size (.slice (some ⟨g,0,none⟩) n c) n xs)):
  St B w0 (w.setCell ⟨g,k,none⟩ u) (R.set i (.row base e size (.slice (some ⟨g,0,none⟩) n c) n (xs.set k u)))∧au w R (w.setCell ⟨g,k,none⟩ u) (R.set i (.row base e size (.slice (some ⟨g,0,none⟩) n c) n (xs.set k u))):=
 h.turn i hi (.row base e size (.slice (some ⟨g,0,none⟩) n c) n (xs.set k u)) (by simp) rfl rfl rfl (fun b' _ hne=>Below.heap_setCell _ _ _ _ (fun e=>hne (by show some g=some b';rw[e]))) (kG (h.own i hi) k u) (fun _ hb=> .inl hb)
theorem flat_set2 {β:Type} {css:List (List β)} {k:Nat} {u v:β} (hs:∀cs∈css,cs.length=2) (hk:k<css.length):(css.flatten.set (k*2) u).set (k*2+1) v=(css.set k [u,v]).flatten:=by
 have h0:css[k]?=some css[k]:=zD hk;have hl:=hs _ (List.getElem_mem hk);have h1:=jG (i:=k) (j:=0) u hs h0 (by decide);have hs':∀cs∈css.set k ((css[k]).set 0 u),cs.length=2:=fun cs hc=>by
  rcases List.mem_or_eq_of_mem_set hc with h|rfl
  ·exact hs cs h
  ·simpa using hl
 have h2:=jG (i:=k) (j:=1) (cs:=(css[k]).set 0 u) v hs' (by simp[hk]) (by decide);rw[Nat.add_zero] at h1;rw[←h1,←h2,List.set_set];congr 2
 generalize css[k]=l at*;match l,hl with
 | [a,b],_=>rfl
theorem St.rowPut2 (h:St B w0 w R) (i k:Nat) (u v:Value) {base:Nat} {e:TypeId} {g n c:Nat} {css:List (List Value)} (hi:R[i]?=some (.row base e 2 (.slice (some ⟨g,0,none⟩) n c) n (cat css))) (hs:∀cs∈css,cs.length=2) (hk:k<css.length):
  St B w0 ((w.setCell ⟨g,k*2,none⟩ u).setCell ⟨g,k*2+1,none⟩ v) (R.set i (.row base e 2 (.slice (some ⟨g,0,none⟩) n c) n (cat (css.set k [u,v]))))∧
   au w R ((w.setCell ⟨g,k*2,none⟩ u).setCell ⟨g,k*2+1,none⟩ v) (R.set i (.row base e 2 (.slice (some ⟨g,0,none⟩) n c) n (cat (css.set k [u,v])))):=by
 have hil:i<R.length:=(zE.1 hi).1;obtain⟨h1,k1⟩:=h.rowPut i (k*2) u (xs:=css.flatten) hi;obtain⟨h2,k2⟩:=h1.rowPut i (k*2+1) v (base:=base) (e:=e) (size:=2) (g:=g) (n:=n) (c:=c) (xs:=css.flatten.set (k*2) u) (by simp[hil]);rw[List.set_set,flat_set2 hs hk] at h2 k2;exact⟨h2,k1.trans (by simp) k2⟩
theorem Held.set {α:Type} {E:El α} {S:Nat→Prop} {css:List (List Value)} {xs:List α} (h:Held E w S css xs) (k:Nat) {cs:List Value} {x:α} (hl:cs.length=E.size) (hr:E.rd w S cs x):Held E w S (css.set k cs) (xs.set k x):=
 ⟨by simp[h.len],fun i y ds hy hd=>by
  rw[List.getElem?_set] at hy hd;by_cases hik:k=i
  ·subst hik;by_cases hkl:k<xs.length
   ·simp[hkl,h.len] at hy hd
    subst hy;subst hd;exact⟨hl,hr⟩
   ·simp[hkl] at hy
  ·simp only[hik,if_false] at hy hd;exact h.each i y ds hy hd⟩
theorem St.grown (h:St B w0 w R) (i:Nat) {r:Res} (hi:R[i]?=some r) (r':Res) {row:Option Nat} (hg:w.grownBy w' row) (hr:∀b,row=some b→r.foot b) (ho:r'.ok w') (hf:∀b,r'.foot b→r.foot b∨(w.heap.size≤b∧b<w'.heap.size)):
  St B w0 w' (R.set i r')∧au w R w' (R.set i r'):=
 h.turn i hi r' hg.size hg.os hg.tape hg.output (fun b hb hne=>hg.block b hb (fun e=>hne (hr b e.symm))) ho hf
theorem St.rowGrown (h:St B w0 w R) (i:Nat) {base:Nat} {e:TypeId} {size:Nat} {v v':Value} {n m:Nat} {xs ys:List Value} (hi:R[i]?=some (.row base e size v n xs)) (hg:w.grownBy w' v.ownBlock)
  (ho:w'.ownsRow base e size v' m ys) (hl:v'.ownBlock=v.ownBlock∨v'.ownBlock=some w.heap.size):
  St B w0 w' (R.set i (.row base e size v' m ys))∧au w R w' (R.set i (.row base e size v' m ys)):=
 h.grown i hi (.row base e size v' m ys) hg (fun _ hb=>hb) ho (fun b hb=>by
  replace hb:v'.ownBlock=some b:=hb;rcases hl with hl|hl
  ·exact .inl (by show v.ownBlock=some b;rw[←hl];exact hb)
  ·have hlt:=(dJ ho hb).1;rw[hl] at hb;injection hb with hb
   exact .inr ⟨by omega,hlt⟩)
theorem St.drop (h:St B w0 w R) (i:Nat):St B w0 w (R.eraseIdx i)∧au w R w (R.eraseIdx i):=
 ⟨⟨h.below,fun r hr=>h.ok r ((List.eraseIdx_sublist ..).subset hr),fun r hr=>h.foot r ((List.eraseIdx_sublist ..).subset hr),h.apart.sublist (List.eraseIdx_sublist ..),h.base⟩,
  fun _ _ hf=>⟨fun x hx=>hf x ((List.eraseIdx_sublist ..).subset hx),rfl⟩⟩
theorem St.tail {r:Res} (h:St B w0 w (r::R)):St B w0 w R∧au w (r::R) w R:=h.drop 0
def Fr (n:Nat) (R:List Res) (b:Nat):Prop:=n≤b∧Free R b
theorem au.fr (k:au w R w' R') {n:Nat}:∀b,b<w.heap.size→Fr n R b→Fr n R' b∧w'.heap[b]?=w.heap[b]?:=fun b hb h=>⟨⟨h.1,(k b hb h.2).1⟩,(k b hb h.2).2⟩
theorem St.kg (h:St B w0 w R) (base:Nat) (e:TypeId) (size:Nat):St B w0 w (.row base e size (.slice none 0 0) 0 (cat [])::R)∧au w R w (.row base e size (.slice none 0 0) 0 (cat [])::R):=
 ⟨⟨h.below,fun r hr=>by
  rcases List.mem_cons.1 hr with rfl|hr
  ·exact⟨by simp[cat],.inl ⟨rfl,rfl⟩⟩
  ·exact h.ok r hr,fun r hr b hb=>by
  rcases List.mem_cons.1 hr with rfl|hr
  ·cases hb
  ·exact h.foot r hr b hb,List.pairwise_cons.2 ⟨(fun _ _ _ hb=>by cases hb),h.apart⟩,h.base⟩,
  fun b _ hf=>⟨fun r hr hrf=>by
  rcases List.mem_cons.1 hr with rfl|hr
  ·cases hrf
  ·exact hf r hr hrf,rfl⟩⟩
theorem aj.pool {α:Type} {E:El α} {S:Nat→Prop} {v:Value} {xs:List α} (hr:aj E w0 S v xs) (hE:0<E.size) (h:St w0.heap.size w0 w R):aj E w (Fr 0 R) v xs:=
 hr.keep hE (fun b hb _=>⟨⟨Nat.zero_le _,fun r hr' hf=>by have:=(h.foot r hr' b hf).1;omega⟩,h.below.block b hb⟩)
theorem free_new (h:St B w0 w R) {b:Nat} (hb:w.heap.size≤b):Free R b:=fun r hr hf=>by have:=(h.foot r hr b hf).2;omega
theorem aj.fresh {α:Type} {E:El α} {v:Value} {xs:List α} (hr:aj E w' (fun b=>w.heap.size≤b) v xs) (hE:0<E.size) (h:St B w0 w R) {n:Nat} (hn:n≤w.heap.size):aj E w' (Fr n R) v xs:=
 hr.keep hE (fun _ _ hb=>⟨⟨Nat.le_trans hn hb,free_new h hb⟩,rfl⟩)
theorem aj.move {α:Type} {E:El α} {v:Value} {xs:List α} {n:Nat} (hr:aj E w (Fr n R) v xs) (hE:0<E.size) (k:au w R w' R'):aj E w' (Fr n R') v xs:=hr.keep hE k.fr
theorem Held.move {α:Type} {E:El α} {css:List (List Value)} {xs:List α} {n:Nat} (h:Held E w (Fr n R) css xs) (k:au w R w' R'):Held E w' (Fr n R') css xs:=h.keep k.fr
theorem aj.from_ {α:Type} {E:El α} {v:Value} {xs:List α} {n:Nat} (hr:aj E w (Fr n R) v xs) (hE:0<E.size):aj E w (fun b=>n≤b) v xs:=hr.keep hE (fun _ _ h=>⟨h.1,rfl⟩)
theorem aj.fr0 {α:Type} {E:El α} {v:Value} {xs:List α} {n m:Nat} (hr:aj E w (Fr n R) v xs) (hE:0<E.size) (hm:m≤n):aj E w (Fr m R) v xs:=hr.keep hE (fun _ _ h=>⟨⟨Nat.le_trans hm h.1,h.2⟩,rfl⟩)
theorem Held.fr0 {α:Type} {E:El α} {css:List (List Value)} {xs:List α} {n m:Nat} (h:Held E w (Fr n R) css xs) (hm:m≤n):Held E w (Fr m R) css xs:=h.keep (fun _ _ h=>⟨⟨Nat.le_trans hm h.1,h.2⟩,rfl⟩)
theorem St.iM {α:Type} {E:El α} (h:St B w0 w R) (i:Nat) {base n m size:Nat} {e:TypeId} {v:Value} {css:List (List Value)} {xs:List α} (hi:R[i]?=some (.row base e size v m (cat css))) (hz:size=E.size) (hm:m=xs.length) (hH:Held E w (Fr n R) css xs)
  (hs:xs.length*E.bytes≤140737488355328) (hn:n≤base) (hE:0<E.size):aj E w (fun b=>n≤b) v xs:=by
 subst hz hm;exact(dQ.rd ⟨css,hH,h.own i hi,hs⟩).keep hE (fun _ _ hb=>⟨hb.elim (fun hb=>hb.1) (fun hb=>Nat.le_trans hn hb),rfl⟩)
theorem St.rdOut {α:Type} {E:El α} (h:St B w0 w R) (i:Nat) {base n m size:Nat} {e:TypeId} {v:Value} {css:List (List Value)} {xs:List α} (hi:R[i]?=some (.row base e size v m (cat css))) (hz:size=E.size) (hm:m=xs.length) (hH:Held E w (Fr n R) css xs)
  (hs:xs.length*E.bytes≤140737488355328) (hn:n≤base) (hE:0<E.size):aj E w (Fr n (R.eraseIdx i)) v xs:=by
 subst hz hm;have ho:dQ E w (Fr n R) base e v xs:=⟨css,hH,h.own i hi,hs⟩;obtain⟨-,k⟩:=h.drop i;have hil:i<R.length:=(zE.1 hi).1;have hri:R[i]= .row base e E.size v xs.length (cat css):=(zE.1 hi).2;refine ho.rdBlk.keep hE (fun b hb hf=>⟨?_,rfl⟩);rcases hf with hf|hf
 ·exact⟨hf.1,(k b hb hf.2).1⟩
 ·refine⟨Nat.le_trans hn (ho.lt hf).2,fun r hr hrf=>?_⟩;obtain⟨j,hj⟩:=List.getElem?_of_mem hr;rw[List.getElem?_eraseIdx] at hj;have key:∀m:Nat,m≠i→R[m]?=some r→False:=fun m hne hm=>by
   obtain⟨hml,hme⟩:=zE.1 hm;have hrb:(R[i]).foot b:=(by rw[hri];exact hf);rcases Nat.lt_or_gt_of_ne hne with hlt|hgt
   ·have:=List.pairwise_iff_getElem.1 h.apart m i hml hil hlt b;rw[hme] at this;exact this hrf hrb
   ·have:=List.pairwise_iff_getElem.1 h.apart i m hil hml hgt b hrb;rw[hme] at this;exact this hrf
  by_cases hji:j<i
  ·rw[if_pos hji] at hj;exact key j (by omega) hj
  ·rw[if_neg hji] at hj;exact key (j+1) (by omega) hj
theorem St.heapMade (h:St B w0 w R) (hb:Below w.heap.size w w') {S:Nat→Prop} {v:Value} {os:List Ob} {vs:List Value} {n:Nat} (hs:gD w' S w.heap.size v os vs os.length) (hn:n≤w.heap.size):
  St B w0 w' (.row n 96 2 v os.length (cat (rowsOf vs os))::R)∧au w R w' (.row n 96 2 v os.length (cat (rowsOf vs os))::R)∧
   Held obE w' (Fr n (.row n 96 2 v os.length (cat (rowsOf vs os))::R)) (rowsOf vs os) os:=by
 have hm:=h.made hb (.row n 96 2 v os.length (cat (rowsOf vs os))) (fH hs.row hn (fun _ _=>rfl)) (fun b hb'=>⟨(dJ hs.row hb').2,(dJ hs.row hb').1⟩);refine⟨hm.1,hm.2,hs.heldS.keep (fun b _ hb'=>⟨⟨Nat.le_trans hn hb'.1,fun r hr hf=>?_⟩,rfl⟩)⟩;rcases List.mem_cons.1 hr with rfl|hr
 ·exact hb'.2 hf
 ·have:=(h.foot r hr b hf).2;omega
def dw (P:Program) (kt e:TypeId) (z:Value) (b n:Nat) (f:Int→Value):Res:= .any (fun k=>k=b) (fun w=>jb P kt e z w b n f) (fun _ _ hk h=>h.keep (hk b rfl))
theorem St.map (h:St B w0 w R) (i:Nat) {P:Program} {kt e:TypeId} {z:Value} {b n:Nat} {f:Int→Value} (hi:R[i]?=some (dw P kt e z b n f)):jb P kt e z w b n f:=h.at_ i hi
theorem St.mapPut (h:St B w0 w R) (i:Nat) {P:Program} {kt e:TypeId} {z:Value} {b n:Nat} {f:Int→Value} (hi:R[i]?=some (dw P kt e z b n f)) {m:Nat} {g:Int→Value} (hg:w.grownBy w' (some b)) (ho:jb P kt e z w' b m g):
  St B w0 w' (R.set i (dw P kt e z b m g))∧au w R w' (R.set i (dw P kt e z b m g)):=
 h.grown i hi (dw P kt e z b m g) hg (fun _ hb=>by injection hb with hb;exact hb.symm) ho (fun _ hb=> .inl hb)
theorem rM {P:Program} {ops:Array Oper} {rest:List Oper} {o:Oper} {a:Act} {Q:Exit→Act→World→Prop} (hgd:o.guard=none) (s x:Operand) (t:TypeId)
  (ho:o.op= .call {callee:= .builtin .append,args:=#[s,x],argTypes:=#[t,t]}) {e:TypeId} {z:Value} {size bytes:Nat} (ht:P.underlying t=some (.slice e))
  (hinfo:(P.info? e).map (fun i=>(i.zero,i.size,i.bytes))=some (some z,size,bytes)) (hzs:z.cells.size=size) (hsz:0<size)
  (h:St B w0 w R) (i:Nat) {base:Nat} {v:Value} {n:Nat} {xs:List Value} (hi:R[i]?=some (.row base e size v n xs)) (hs:a.eval s=v) (news:List Value) (te:TypeId)
  (hx:a.eval x= .slice (some ⟨w.heap.size,0,none⟩) 1 1) (hl:news.length=size) (h1:∀u∈news,u.oneCell'=true) (h63:n+1≤maxLen) (hbytes:(n+1)*bytes≤140737488355328) (hbase:base≤w.heap.size)
  (hK:∀(A:Option Addr) (c:Nat) (w':World),St B w0 w' (R.set i (.row base e size (.slice A (n+1) c) (n+1) (xs++news)))→au w R w' (R.set i (.row base e size (.slice A (n+1) c) (n+1) (xs++news)))→w.heap.size+1≤w'.heap.size→
   wpList P ops Q rest (a.put o.dst (.slice A (n+1) c)) w'):wpList P ops Q (o::rest) a (w.alloc (.cells news.toArray te)):=by
 obtain⟨i0,hi0,hz0,hz1,hz2⟩:=info_parts hinfo;obtain⟨hT,hk⟩:=h.alloc (.cells news.toArray te);refine wpList_append_own_at _ hgd s x t ho base e i0 z size bytes ht hi0 hz0 hz1 hz2 hzs hsz v n xs hs (hT.own i hi) ⟨w.heap.size,0,none⟩ 1 1 news hx (by omega)
  (fun j u hu=>by simp only[addr_add,Nat.zero_add,World.cell?];rw[show(w.alloc (.cells news.toArray te)).heap[w.heap.size]?=some (.cells news.toArray te) from heap_alloc_new w _];simpa using hu) h1 h63 hbytes (by simp;omega) (fun v' w' hown hg _ hl=>?_)
 obtain⟨A,c,rfl⟩:=bZ hown;obtain⟨hT',hk'⟩:=hT.rowGrown i hi hg hown hl;exact hK A c w' hT' (hk.trans (by simp) hk') (by have:=hg.size;simpa using this)
theorem aM {P:Program} {ops:Array Oper} {rest:List Oper} {o:Oper} {a:Act} {Q:Exit→Act→World→Prop} (hgd:o.guard=none) (s x:Operand) (t:TypeId)
  (ho:o.op= .call {callee:= .builtin .append,args:=#[s,x],argTypes:=#[t,t]}) {e:TypeId} {z:Value} {size bytes:Nat} (ht:P.underlying t=some (.slice e))
  (hinfo:(P.info? e).map (fun i=>(i.zero,i.size,i.bytes))=some (some z,size,bytes)) (hzs:z.cells.size=size) (hsz:0<size)
  (h:St B w0 w R) (i:Nat) {base:Nat} {v:Value} {n:Nat} {css:List (List Value)} (hi:R[i]?=some (.row base e size v n (cat css))) (hs:a.eval s=v) (news:List Value) (te:TypeId)
  (hx:a.eval x= .slice (some ⟨w.heap.size,0,none⟩) 1 1) (hl:news.length=size) (h1:∀u∈news,u.oneCell'=true) (h63:n+1≤maxLen) (hbytes:(n+1)*bytes≤140737488355328) (hbase:base≤w.heap.size)
  (hK:∀(A:Option Addr) (c:Nat) (w':World),St B w0 w' (R.set i (.row base e size (.slice A (n+1) c) (n+1) (cat (css++[news]))))→au w R w' (R.set i (.row base e size (.slice A (n+1) c) (n+1) (cat (css++[news]))))→w.heap.size+1≤w'.heap.size→
   wpList P ops Q rest (a.put o.dst (.slice A (n+1) c)) w'):wpList P ops Q (o::rest) a (w.alloc (.cells news.toArray te)):=
 rM hgd s x t ho ht hinfo hzs hsz h i hi hs news te hx hl h1 h63 hbytes hbase (fun A c w' h1 h2 h3=>by
  have e:cat css++news=cat (css++[news]):=(by simp[cat]);rw[e] at h1 h2;exact hK A c w' h1 h2 h3)
theorem St.mW (h:St B w0 w R) (i:Nat) {base:Nat} {e:TypeId} {size g n c:Nat} {css:List (List Value)} (hi:R[i]?=some (.row base e size (.slice (some ⟨g,0,none⟩) n c) n (cat css))) (hs:∀cs∈css,cs.length=size) {k j:Nat} {cs:List Value} {u:Value} (hk:css[k]?=some cs) (hj:cs[j]?=some u):
  w.cell? ⟨g,k*size+j,none⟩=some u:=by
 have:=(h.own i hi).cells (g:=g) rfl (k*size+j) u (jT hs hk hj);rw[addr_add] at this;simpa using this
theorem St.fD (h:St B w0 w R) (i:Nat) {base:Nat} {e:TypeId} {size g n c:Nat} {xs:List Value} (hi:R[i]?=some (.row base e size (.slice (some ⟨g,0,none⟩) n c) n xs)) (k:Nat):w.frozen? ⟨g,k,none⟩=false:=by
 rcases (h.own i hi).2 with⟨h0,_⟩|⟨g',cap,cur,hv,_,hh,_⟩
 ·cases h0
 ·cases hv
  simp[World.frozen?,hh]
theorem Held.at_o {S:Nat→Prop} {css:List (List Value)} {os:List Ob} (h:Held obE w S css os) {i:Nat} {o:Ob} (ho:os[i]?=some o):∃B d,css[i]?=some [.slice B o.fields.length d,.bool o.dead]∧aj vE w S (.slice B o.fields.length d) o.fields:=by
 have hc:css[i]?=some (css[i]'(by rw[h.len];exact(zE.1 ho).1)):=zD _;obtain⟨_,v,hv,hr⟩:=h.each i o _ ho hc;obtain⟨B,d,rfl,_⟩:=hr.form;exact⟨B,d,by rw[hc,hv],hr⟩
def vcs (l:List V):List (List Value):=l.map (fun x=>[.int .i64 x.k,.int .i64 x.n])
theorem gY {S:Nat→Prop} (l:List V):Held vE w S (vcs l) l:=⟨by simp[vcs],fun i x cs hx hc=>by
 simp[vcs,hx] at hc
 subst hc;exact⟨rfl,rfl⟩⟩
theorem qQ (l:List V) (x:V):vcs l++[[.int .i64 x.k,.int .i64 x.n]]=vcs (l++[x]):=by simp[vcs]
theorem Held.two {α:Type} {E:El α} {S:Nat→Prop} {css:List (List Value)} {xs:List α} (h:Held E w S css xs) (hE:E.size=2) {k:Nat} (hk:k<css.length):∃a b,css[k]?=some [a,b]:=by
 have hl:=h.size _ (List.getElem_mem hk);rw[hE] at hl;rw[zD hk];match css[k],hl with
 | [a,b],_=>exact⟨a,b,rfl⟩
theorem RdH.of {m:Int} {A:Option Addr} {n c base:Nat} {os:List Ob} (h:aj obE w (fun b=>base≤b) (.slice A n c) os) (hn:n=os.length):RdH w base (.agg #[.int .i64 m,.slice A n c]) ⟨m,os⟩:=by
 subst hn;exact⟨A,c,rfl,h⟩
theorem mv_ {a b:Prop} (f:a→b) (x:a):Hid b:=f x
theorem aj.s {α:Type} {E:El α} {v:Value} {xs:List α} {n:Nat} (hr:aj E w (Fr n R) v xs) (hE:0<E.size:=by first|decide|(show 0<1;omega)) (k:au w R w' R'):Hid (aj E w' (Fr n R') v xs):=hr.move hE k
theorem au.t {w1:World} {R1:List Res} (h:au w1 R1 w R) (hs:w1.heap.size≤w.heap.size) (k:au w R w' R'):Hid (au w1 R1 w' R'):=au.trans h hs k
theorem St.zz {n:Nat} {v:World} (_:St B w0 w R) (hz:n≤v.heap.size) (hs:v.heap.size≤w.heap.size:=by simp):n≤w.heap.size:=Nat.le_trans hz hs
def StRz (w:World):List Res→Nat→Prop
 | [],_=>True
 | .blk _ _ _::_,0=>True
 | .blk b cs _::r,n+1=>(∀i:Nat,w.cell? ⟨b,i,none⟩=cs[i]?)∧(∀i:Nat,w.frozen? ⟨b,i,none⟩=false)∧b<w.heap.size∧StRz w r n
 | .row .. ::r,n=>StRz w r n
 | .any .. ::r,n=>StRz w r n
theorem St.rz0 (h:St B w0 w R) (n:Nat):StRz w R n:=by
 have h1:=h.ok;clear h;induction R generalizing n with
 |nil=>trivial
 |cons r R ih=>
  have ih':=fun n=>ih n (fun x hx=>h1 x (List.mem_cons_of_mem _ hx));have h2:=h1 r (List.mem_cons_self ..)
  cases r with
  |blk b cs t=>
   replace h2:w.heap[b]?=some (.cells cs t (0,0)):=h2
   cases n with
   |zero=>trivial
   |succ n=>exact⟨fun i=>by simp[World.cell?,h2],fun i=>by simp[World.frozen?,h2],(Array.getElem?_eq_some_iff.1 h2).1,ih' n⟩
  |row=>exact ih' n
  |any=>exact ih' n
theorem St.rz {P:Prop} (h:St B w0 w R) (n:Nat) (e:StRz w R n=P:=by first|(simp only[StRz,stR,dw,dI];done)|(simp only[StRz,stR,dw,dI];rfl)|(simp only[StRz,stR,dw];done)|(simp only[StRz,stR,dw];rfl)|(simp only[StRz,dw,dI];done)|(simp only[StRz,dw,dI];rfl)|(simp only[StRz,dw];done)|(simp only[StRz,dw];rfl)):P:=e ▸ h.rz0 n
section
variable {v:World} {Q:List Res} {r:Res} {p1 p2 p3 p4 p5 p6 p7 p8 p9:Prop}
variable {a0 a1 a2 a3 a4 a5 a6 a7 a8 a9 b0 b1 b2 b3 b4 b5:Res}
theorem ns0 (h:St B w0 w ((a0::R).set 0 r)∧au v Q w ((a0::R).set 0 r)):St B w0 w (r::R)∧au v Q w (r::R):=h
theorem nu0 {r':Res} (h:St B w0 w (r'::(a0::R).set 0 r)∧au v Q w (r'::(a0::R).set 0 r)):St B w0 w (r'::r::R)∧au v Q w (r'::r::R):=h
theorem nd0 (h:St B w0 w ((a0::R).eraseIdx 0)∧au v Q w ((a0::R).eraseIdx 0)):St B w0 w (R)∧au v Q w (R):=h
theorem ns1 (h:St B w0 w ((a0::a1::R).set 1 r)∧au v Q w ((a0::a1::R).set 1 r)):St B w0 w (a0::r::R)∧au v Q w (a0::r::R):=h
theorem nu1 {r':Res} (h:St B w0 w (r'::(a0::a1::R).set 1 r)∧au v Q w (r'::(a0::a1::R).set 1 r)):St B w0 w (r'::a0::r::R)∧au v Q w (r'::a0::r::R):=h
theorem nd1 (h:St B w0 w ((a0::a1::R).eraseIdx 1)∧au v Q w ((a0::a1::R).eraseIdx 1)):St B w0 w (a0::R)∧au v Q w (a0::R):=h
theorem ns2 (h:St B w0 w ((a0::a1::a2::R).set 2 r)∧au v Q w ((a0::a1::a2::R).set 2 r)):St B w0 w (a0::a1::r::R)∧au v Q w (a0::a1::r::R):=h
theorem nu2 {r':Res} (h:St B w0 w (r'::(a0::a1::a2::R).set 2 r)∧au v Q w (r'::(a0::a1::a2::R).set 2 r)):St B w0 w (r'::a0::a1::r::R)∧au v Q w (r'::a0::a1::r::R):=h
theorem nd2 (h:St B w0 w ((a0::a1::a2::R).eraseIdx 2)∧au v Q w ((a0::a1::a2::R).eraseIdx 2)):St B w0 w (a0::a1::R)∧au v Q w (a0::a1::R):=h
theorem ns3 (h:St B w0 w ((a0::a1::a2::a3::R).set 3 r)∧au v Q w ((a0::a1::a2::a3::R).set 3 r)):St B w0 w (a0::a1::a2::r::R)∧au v Q w (a0::a1::a2::r::R):=h
theorem nu3 {r':Res} (h:St B w0 w (r'::(a0::a1::a2::a3::R).set 3 r)∧au v Q w (r'::(a0::a1::a2::a3::R).set 3 r)):St B w0 w (r'::a0::a1::a2::r::R)∧au v Q w (r'::a0::a1::a2::r::R):=h
theorem nd3 (h:St B w0 w ((a0::a1::a2::a3::R).eraseIdx 3)∧au v Q w ((a0::a1::a2::a3::R).eraseIdx 3)):St B w0 w (a0::a1::a2::R)∧au v Q w (a0::a1::a2::R):=h
theorem ns4 (h:St B w0 w ((a0::a1::a2::a3::a4::R).set 4 r)∧au v Q w ((a0::a1::a2::a3::a4::R).set 4 r)):St B w0 w (a0::a1::a2::a3::r::R)∧au v Q w (a0::a1::a2::a3::r::R):=h
theorem nu4 {r':Res} (h:St B w0 w (r'::(a0::a1::a2::a3::a4::R).set 4 r)∧au v Q w (r'::(a0::a1::a2::a3::a4::R).set 4 r)):St B w0 w (r'::a0::a1::a2::a3::r::R)∧au v Q w (r'::a0::a1::a2::a3::r::R):=h
theorem nd4 (h:St B w0 w ((a0::a1::a2::a3::a4::R).eraseIdx 4)∧au v Q w ((a0::a1::a2::a3::a4::R).eraseIdx 4)):St B w0 w (a0::a1::a2::a3::R)∧au v Q w (a0::a1::a2::a3::R):=h
theorem ns5 (h:St B w0 w ((a0::a1::a2::a3::a4::a5::R).set 5 r)∧au v Q w ((a0::a1::a2::a3::a4::a5::R).set 5 r)):St B w0 w (a0::a1::a2::a3::a4::r::R)∧au v Q w (a0::a1::a2::a3::a4::r::R):=h
theorem nu5 {r':Res} (h:St B w0 w (r'::(a0::a1::a2::a3::a4::a5::R).set 5 r)∧au v Q w (r'::(a0::a1::a2::a3::a4::a5::R).set 5 r)):St B w0 w (r'::a0::a1::a2::a3::a4::r::R)∧au v Q w (r'::a0::a1::a2::a3::a4::r::R):=h
theorem nd5 (h:St B w0 w ((a0::a1::a2::a3::a4::a5::R).eraseIdx 5)∧au v Q w ((a0::a1::a2::a3::a4::a5::R).eraseIdx 5)):St B w0 w (a0::a1::a2::a3::a4::R)∧au v Q w (a0::a1::a2::a3::a4::R):=h
theorem ns6 (h:St B w0 w ((a0::a1::a2::a3::a4::a5::a6::R).set 6 r)∧au v Q w ((a0::a1::a2::a3::a4::a5::a6::R).set 6 r)):St B w0 w (a0::a1::a2::a3::a4::a5::r::R)∧au v Q w (a0::a1::a2::a3::a4::a5::r::R):=h
theorem nu6 {r':Res} (h:St B w0 w (r'::(a0::a1::a2::a3::a4::a5::a6::R).set 6 r)∧au v Q w (r'::(a0::a1::a2::a3::a4::a5::a6::R).set 6 r)):St B w0 w (r'::a0::a1::a2::a3::a4::a5::r::R)∧au v Q w (r'::a0::a1::a2::a3::a4::a5::r::R):=h
theorem nd6 (h:St B w0 w ((a0::a1::a2::a3::a4::a5::a6::R).eraseIdx 6)∧au v Q w ((a0::a1::a2::a3::a4::a5::a6::R).eraseIdx 6)):St B w0 w (a0::a1::a2::a3::a4::a5::R)∧au v Q w (a0::a1::a2::a3::a4::a5::R):=h
theorem ns7 (h:St B w0 w ((a0::a1::a2::a3::a4::a5::a6::a7::R).set 7 r)∧au v Q w ((a0::a1::a2::a3::a4::a5::a6::a7::R).set 7 r)):St B w0 w (a0::a1::a2::a3::a4::a5::a6::r::R)∧au v Q w (a0::a1::a2::a3::a4::a5::a6::r::R):=h
theorem nu7 {r':Res} (h:St B w0 w (r'::(a0::a1::a2::a3::a4::a5::a6::a7::R).set 7 r)∧au v Q w (r'::(a0::a1::a2::a3::a4::a5::a6::a7::R).set 7 r)):St B w0 w (r'::a0::a1::a2::a3::a4::a5::a6::r::R)∧au v Q w (r'::a0::a1::a2::a3::a4::a5::a6::r::R):=h
theorem nd7 (h:St B w0 w ((a0::a1::a2::a3::a4::a5::a6::a7::R).eraseIdx 7)∧au v Q w ((a0::a1::a2::a3::a4::a5::a6::a7::R).eraseIdx 7)):St B w0 w (a0::a1::a2::a3::a4::a5::a6::R)∧au v Q w (a0::a1::a2::a3::a4::a5::a6::R):=h
theorem ns8 (h:St B w0 w ((a0::a1::a2::a3::a4::a5::a6::a7::a8::R).set 8 r)∧au v Q w ((a0::a1::a2::a3::a4::a5::a6::a7::a8::R).set 8 r)):St B w0 w (a0::a1::a2::a3::a4::a5::a6::a7::r::R)∧au v Q w (a0::a1::a2::a3::a4::a5::a6::a7::r::R):=h
theorem nu8 {r':Res} (h:St B w0 w (r'::(a0::a1::a2::a3::a4::a5::a6::a7::a8::R).set 8 r)∧au v Q w (r'::(a0::a1::a2::a3::a4::a5::a6::a7::a8::R).set 8 r)):St B w0 w (r'::a0::a1::a2::a3::a4::a5::a6::a7::r::R)∧au v Q w (r'::a0::a1::a2::a3::a4::a5::a6::a7::r::R):=h
theorem nd8 (h:St B w0 w ((a0::a1::a2::a3::a4::a5::a6::a7::a8::R).eraseIdx 8)∧au v Q w ((a0::a1::a2::a3::a4::a5::a6::a7::a8::R).eraseIdx 8)):St B w0 w (a0::a1::a2::a3::a4::a5::a6::a7::R)∧au v Q w (a0::a1::a2::a3::a4::a5::a6::a7::R):=h
theorem ns9 (h:St B w0 w ((a0::a1::a2::a3::a4::a5::a6::a7::a8::a9::R).set 9 r)∧au v Q w ((a0::a1::a2::a3::a4::a5::a6::a7::a8::a9::R).set 9 r)):St B w0 w (a0::a1::a2::a3::a4::a5::a6::a7::a8::r::R)∧au v Q w (a0::a1::a2::a3::a4::a5::a6::a7::a8::r::R):=h
theorem nu9 {r':Res} (h:St B w0 w (r'::(a0::a1::a2::a3::a4::a5::a6::a7::a8::a9::R).set 9 r)∧au v Q w (r'::(a0::a1::a2::a3::a4::a5::a6::a7::a8::a9::R).set 9 r)):St B w0 w (r'::a0::a1::a2::a3::a4::a5::a6::a7::a8::r::R)∧au v Q w (r'::a0::a1::a2::a3::a4::a5::a6::a7::a8::r::R):=h
theorem nd9 (h:St B w0 w ((a0::a1::a2::a3::a4::a5::a6::a7::a8::a9::R).eraseIdx 9)∧au v Q w ((a0::a1::a2::a3::a4::a5::a6::a7::a8::a9::R).eraseIdx 9)):St B w0 w (a0::a1::a2::a3::a4::a5::a6::a7::a8::R)∧au v Q w (a0::a1::a2::a3::a4::a5::a6::a7::a8::R):=h
theorem ns10 (h:St B w0 w ((a0::a1::a2::a3::a4::a5::a6::a7::a8::a9::b0::R).set 10 r)∧au v Q w ((a0::a1::a2::a3::a4::a5::a6::a7::a8::a9::b0::R).set 10 r)):St B w0 w (a0::a1::a2::a3::a4::a5::a6::a7::a8::a9::r::R)∧au v Q w (a0::a1::a2::a3::a4::a5::a6::a7::a8::a9::r::R):=h
theorem nu10 {r':Res} (h:St B w0 w (r'::(a0::a1::a2::a3::a4::a5::a6::a7::a8::a9::b0::R).set 10 r)∧au v Q w (r'::(a0::a1::a2::a3::a4::a5::a6::a7::a8::a9::b0::R).set 10 r)):St B w0 w (r'::a0::a1::a2::a3::a4::a5::a6::a7::a8::a9::r::R)∧au v Q w (r'::a0::a1::a2::a3::a4::a5::a6::a7::a8::a9::r::R):=h
theorem nd10 (h:St B w0 w ((a0::a1::a2::a3::a4::a5::a6::a7::a8::a9::b0::R).eraseIdx 10)∧au v Q w ((a0::a1::a2::a3::a4::a5::a6::a7::a8::a9::b0::R).eraseIdx 10)):St B w0 w (a0::a1::a2::a3::a4::a5::a6::a7::a8::a9::R)∧au v Q w (a0::a1::a2::a3::a4::a5::a6::a7::a8::a9::R):=h
theorem ns11 (h:St B w0 w ((a0::a1::a2::a3::a4::a5::a6::a7::a8::a9::b0::b1::R).set 11 r)∧au v Q w ((a0::a1::a2::a3::a4::a5::a6::a7::a8::a9::b0::b1::R).set 11 r)):St B w0 w (a0::a1::a2::a3::a4::a5::a6::a7::a8::a9::b0::r::R)∧au v Q w (a0::a1::a2::a3::a4::a5::a6::a7::a8::a9::b0::r::R):=h
theorem nu11 {r':Res} (h:St B w0 w (r'::(a0::a1::a2::a3::a4::a5::a6::a7::a8::a9::b0::b1::R).set 11 r)∧au v Q w (r'::(a0::a1::a2::a3::a4::a5::a6::a7::a8::a9::b0::b1::R).set 11 r)):St B w0 w (r'::a0::a1::a2::a3::a4::a5::a6::a7::a8::a9::b0::r::R)∧au v Q w (r'::a0::a1::a2::a3::a4::a5::a6::a7::a8::a9::b0::r::R):=h
theorem nd11 (h:St B w0 w ((a0::a1::a2::a3::a4::a5::a6::a7::a8::a9::b0::b1::R).eraseIdx 11)∧au v Q w ((a0::a1::a2::a3::a4::a5::a6::a7::a8::a9::b0::b1::R).eraseIdx 11)):St B w0 w (a0::a1::a2::a3::a4::a5::a6::a7::a8::a9::b0::R)∧au v Q w (a0::a1::a2::a3::a4::a5::a6::a7::a8::a9::b0::R):=h
theorem ns12 (h:St B w0 w ((a0::a1::a2::a3::a4::a5::a6::a7::a8::a9::b0::b1::b2::R).set 12 r)∧au v Q w ((a0::a1::a2::a3::a4::a5::a6::a7::a8::a9::b0::b1::b2::R).set 12 r)):St B w0 w (a0::a1::a2::a3::a4::a5::a6::a7::a8::a9::b0::b1::r::R)∧au v Q w (a0::a1::a2::a3::a4::a5::a6::a7::a8::a9::b0::b1::r::R):=h
theorem nu12 {r':Res} (h:St B w0 w (r'::(a0::a1::a2::a3::a4::a5::a6::a7::a8::a9::b0::b1::b2::R).set 12 r)∧au v Q w (r'::(a0::a1::a2::a3::a4::a5::a6::a7::a8::a9::b0::b1::b2::R).set 12 r)):St B w0 w (r'::a0::a1::a2::a3::a4::a5::a6::a7::a8::a9::b0::b1::r::R)∧au v Q w (r'::a0::a1::a2::a3::a4::a5::a6::a7::a8::a9::b0::b1::r::R):=h
theorem nd12 (h:St B w0 w ((a0::a1::a2::a3::a4::a5::a6::a7::a8::a9::b0::b1::b2::R).eraseIdx 12)∧au v Q w ((a0::a1::a2::a3::a4::a5::a6::a7::a8::a9::b0::b1::b2::R).eraseIdx 12)):St B w0 w (a0::a1::a2::a3::a4::a5::a6::a7::a8::a9::b0::b1::R)∧au v Q w (a0::a1::a2::a3::a4::a5::a6::a7::a8::a9::b0::b1::R):=h
theorem ns13 (h:St B w0 w ((a0::a1::a2::a3::a4::a5::a6::a7::a8::a9::b0::b1::b2::b3::R).set 13 r)∧au v Q w ((a0::a1::a2::a3::a4::a5::a6::a7::a8::a9::b0::b1::b2::b3::R).set 13 r)):St B w0 w (a0::a1::a2::a3::a4::a5::a6::a7::a8::a9::b0::b1::b2::r::R)∧au v Q w (a0::a1::a2::a3::a4::a5::a6::a7::a8::a9::b0::b1::b2::r::R):=h
theorem nu13 {r':Res} (h:St B w0 w (r'::(a0::a1::a2::a3::a4::a5::a6::a7::a8::a9::b0::b1::b2::b3::R).set 13 r)∧au v Q w (r'::(a0::a1::a2::a3::a4::a5::a6::a7::a8::a9::b0::b1::b2::b3::R).set 13 r)):St B w0 w (r'::a0::a1::a2::a3::a4::a5::a6::a7::a8::a9::b0::b1::b2::r::R)∧au v Q w (r'::a0::a1::a2::a3::a4::a5::a6::a7::a8::a9::b0::b1::b2::r::R):=h
theorem nd13 (h:St B w0 w ((a0::a1::a2::a3::a4::a5::a6::a7::a8::a9::b0::b1::b2::b3::R).eraseIdx 13)∧au v Q w ((a0::a1::a2::a3::a4::a5::a6::a7::a8::a9::b0::b1::b2::b3::R).eraseIdx 13)):St B w0 w (a0::a1::a2::a3::a4::a5::a6::a7::a8::a9::b0::b1::b2::R)∧au v Q w (a0::a1::a2::a3::a4::a5::a6::a7::a8::a9::b0::b1::b2::R):=h
theorem ns14 (h:St B w0 w ((a0::a1::a2::a3::a4::a5::a6::a7::a8::a9::b0::b1::b2::b3::b4::R).set 14 r)∧au v Q w ((a0::a1::a2::a3::a4::a5::a6::a7::a8::a9::b0::b1::b2::b3::b4::R).set 14 r)):St B w0 w (a0::a1::a2::a3::a4::a5::a6::a7::a8::a9::b0::b1::b2::b3::r::R)∧au v Q w (a0::a1::a2::a3::a4::a5::a6::a7::a8::a9::b0::b1::b2::b3::r::R):=h
theorem nu14 {r':Res} (h:St B w0 w (r'::(a0::a1::a2::a3::a4::a5::a6::a7::a8::a9::b0::b1::b2::b3::b4::R).set 14 r)∧au v Q w (r'::(a0::a1::a2::a3::a4::a5::a6::a7::a8::a9::b0::b1::b2::b3::b4::R).set 14 r)):St B w0 w (r'::a0::a1::a2::a3::a4::a5::a6::a7::a8::a9::b0::b1::b2::b3::r::R)∧au v Q w (r'::a0::a1::a2::a3::a4::a5::a6::a7::a8::a9::b0::b1::b2::b3::r::R):=h
theorem nd14 (h:St B w0 w ((a0::a1::a2::a3::a4::a5::a6::a7::a8::a9::b0::b1::b2::b3::b4::R).eraseIdx 14)∧au v Q w ((a0::a1::a2::a3::a4::a5::a6::a7::a8::a9::b0::b1::b2::b3::b4::R).eraseIdx 14)):St B w0 w (a0::a1::a2::a3::a4::a5::a6::a7::a8::a9::b0::b1::b2::b3::R)∧au v Q w (a0::a1::a2::a3::a4::a5::a6::a7::a8::a9::b0::b1::b2::b3::R):=h
theorem ns15 (h:St B w0 w ((a0::a1::a2::a3::a4::a5::a6::a7::a8::a9::b0::b1::b2::b3::b4::b5::R).set 15 r)∧au v Q w ((a0::a1::a2::a3::a4::a5::a6::a7::a8::a9::b0::b1::b2::b3::b4::b5::R).set 15 r)):St B w0 w (a0::a1::a2::a3::a4::a5::a6::a7::a8::a9::b0::b1::b2::b3::b4::r::R)∧au v Q w (a0::a1::a2::a3::a4::a5::a6::a7::a8::a9::b0::b1::b2::b3::b4::r::R):=h
theorem nu15 {r':Res} (h:St B w0 w (r'::(a0::a1::a2::a3::a4::a5::a6::a7::a8::a9::b0::b1::b2::b3::b4::b5::R).set 15 r)∧au v Q w (r'::(a0::a1::a2::a3::a4::a5::a6::a7::a8::a9::b0::b1::b2::b3::b4::b5::R).set 15 r)):St B w0 w (r'::a0::a1::a2::a3::a4::a5::a6::a7::a8::a9::b0::b1::b2::b3::b4::r::R)∧au v Q w (r'::a0::a1::a2::a3::a4::a5::a6::a7::a8::a9::b0::b1::b2::b3::b4::r::R):=h
theorem nd15 (h:St B w0 w ((a0::a1::a2::a3::a4::a5::a6::a7::a8::a9::b0::b1::b2::b3::b4::b5::R).eraseIdx 15)∧au v Q w ((a0::a1::a2::a3::a4::a5::a6::a7::a8::a9::b0::b1::b2::b3::b4::b5::R).eraseIdx 15)):St B w0 w (a0::a1::a2::a3::a4::a5::a6::a7::a8::a9::b0::b1::b2::b3::b4::R)∧au v Q w (a0::a1::a2::a3::a4::a5::a6::a7::a8::a9::b0::b1::b2::b3::b4::R):=h
theorem sp0 (h:St B w0 w R∧au v Q w R):Hid (St B w0 w R):=h.1
theorem sw0 (w:World) (R:List Res) (h:St B w0 w R∧au v Q w R):Hid (St B w0 w R):=h.1
theorem sp1 (h:St B w0 w R∧au v Q w R) (f1:au v Q w R→p1):Hid (St B w0 w R)∧p1:=⟨h.1,f1 h.2⟩
theorem sw1 (w:World) (R:List Res) (h:St B w0 w R∧au v Q w R) (f1:au v Q w R→p1):Hid (St B w0 w R)∧p1:=⟨h.1,f1 h.2⟩
theorem sp2 (h:St B w0 w R∧au v Q w R) (f1:au v Q w R→p1) (f2:au v Q w R→p2):Hid (St B w0 w R)∧p1∧p2:=⟨h.1,f1 h.2,f2 h.2⟩
theorem sw2 (w:World) (R:List Res) (h:St B w0 w R∧au v Q w R) (f1:au v Q w R→p1) (f2:au v Q w R→p2):Hid (St B w0 w R)∧p1∧p2:=⟨h.1,f1 h.2,f2 h.2⟩
theorem sp3 (h:St B w0 w R∧au v Q w R) (f1:au v Q w R→p1) (f2:au v Q w R→p2) (f3:au v Q w R→p3):Hid (St B w0 w R)∧p1∧p2∧p3:=⟨h.1,f1 h.2,f2 h.2,f3 h.2⟩
theorem sw3 (w:World) (R:List Res) (h:St B w0 w R∧au v Q w R) (f1:au v Q w R→p1) (f2:au v Q w R→p2) (f3:au v Q w R→p3):Hid (St B w0 w R)∧p1∧p2∧p3:=⟨h.1,f1 h.2,f2 h.2,f3 h.2⟩
theorem sp4 (h:St B w0 w R∧au v Q w R) (f1:au v Q w R→p1) (f2:au v Q w R→p2) (f3:au v Q w R→p3) (f4:au v Q w R→p4):Hid (St B w0 w R)∧p1∧p2∧p3∧p4:=⟨h.1,f1 h.2,f2 h.2,f3 h.2,f4 h.2⟩
theorem sw4 (w:World) (R:List Res) (h:St B w0 w R∧au v Q w R) (f1:au v Q w R→p1) (f2:au v Q w R→p2) (f3:au v Q w R→p3) (f4:au v Q w R→p4):Hid (St B w0 w R)∧p1∧p2∧p3∧p4:=⟨h.1,f1 h.2,f2 h.2,f3 h.2,f4 h.2⟩
theorem sp5 (h:St B w0 w R∧au v Q w R) (f1:au v Q w R→p1) (f2:au v Q w R→p2) (f3:au v Q w R→p3) (f4:au v Q w R→p4) (f5:au v Q w R→p5):Hid (St B w0 w R)∧p1∧p2∧p3∧p4∧p5:=⟨h.1,f1 h.2,f2 h.2,f3 h.2,f4 h.2,f5 h.2⟩
theorem sw5 (w:World) (R:List Res) (h:St B w0 w R∧au v Q w R) (f1:au v Q w R→p1) (f2:au v Q w R→p2) (f3:au v Q w R→p3) (f4:au v Q w R→p4) (f5:au v Q w R→p5):Hid (St B w0 w R)∧p1∧p2∧p3∧p4∧p5:=⟨h.1,f1 h.2,f2 h.2,f3 h.2,f4 h.2,f5 h.2⟩
theorem sp6 (h:St B w0 w R∧au v Q w R) (f1:au v Q w R→p1) (f2:au v Q w R→p2) (f3:au v Q w R→p3) (f4:au v Q w R→p4) (f5:au v Q w R→p5) (f6:au v Q w R→p6):Hid (St B w0 w R)∧p1∧p2∧p3∧p4∧p5∧p6:=⟨h.1,f1 h.2,f2 h.2,f3 h.2,f4 h.2,f5 h.2,f6 h.2⟩
theorem sw6 (w:World) (R:List Res) (h:St B w0 w R∧au v Q w R) (f1:au v Q w R→p1) (f2:au v Q w R→p2) (f3:au v Q w R→p3) (f4:au v Q w R→p4) (f5:au v Q w R→p5) (f6:au v Q w R→p6):Hid (St B w0 w R)∧p1∧p2∧p3∧p4∧p5∧p6:=⟨h.1,f1 h.2,f2 h.2,f3 h.2,f4 h.2,f5 h.2,f6 h.2⟩
theorem sp7 (h:St B w0 w R∧au v Q w R) (f1:au v Q w R→p1) (f2:au v Q w R→p2) (f3:au v Q w R→p3) (f4:au v Q w R→p4) (f5:au v Q w R→p5) (f6:au v Q w R→p6) (f7:au v Q w R→p7):Hid (St B w0 w R)∧p1∧p2∧p3∧p4∧p5∧p6∧p7:=⟨h.1,f1 h.2,f2 h.2,f3 h.2,f4 h.2,f5 h.2,f6 h.2,f7 h.2⟩
theorem sw7 (w:World) (R:List Res) (h:St B w0 w R∧au v Q w R) (f1:au v Q w R→p1) (f2:au v Q w R→p2) (f3:au v Q w R→p3) (f4:au v Q w R→p4) (f5:au v Q w R→p5) (f6:au v Q w R→p6) (f7:au v Q w R→p7):Hid (St B w0 w R)∧p1∧p2∧p3∧p4∧p5∧p6∧p7:=⟨h.1,f1 h.2,f2 h.2,f3 h.2,f4 h.2,f5 h.2,f6 h.2,f7 h.2⟩
theorem sp8 (h:St B w0 w R∧au v Q w R) (f1:au v Q w R→p1) (f2:au v Q w R→p2) (f3:au v Q w R→p3) (f4:au v Q w R→p4) (f5:au v Q w R→p5) (f6:au v Q w R→p6) (f7:au v Q w R→p7) (f8:au v Q w R→p8):Hid (St B w0 w R)∧p1∧p2∧p3∧p4∧p5∧p6∧p7∧p8:=⟨h.1,f1 h.2,f2 h.2,f3 h.2,f4 h.2,f5 h.2,f6 h.2,f7 h.2,f8 h.2⟩
theorem sw8 (w:World) (R:List Res) (h:St B w0 w R∧au v Q w R) (f1:au v Q w R→p1) (f2:au v Q w R→p2) (f3:au v Q w R→p3) (f4:au v Q w R→p4) (f5:au v Q w R→p5) (f6:au v Q w R→p6) (f7:au v Q w R→p7) (f8:au v Q w R→p8):Hid (St B w0 w R)∧p1∧p2∧p3∧p4∧p5∧p6∧p7∧p8:=⟨h.1,f1 h.2,f2 h.2,f3 h.2,f4 h.2,f5 h.2,f6 h.2,f7 h.2,f8 h.2⟩
theorem sp9 (h:St B w0 w R∧au v Q w R) (f1:au v Q w R→p1) (f2:au v Q w R→p2) (f3:au v Q w R→p3) (f4:au v Q w R→p4) (f5:au v Q w R→p5) (f6:au v Q w R→p6) (f7:au v Q w R→p7) (f8:au v Q w R→p8) (f9:au v Q w R→p9):Hid (St B w0 w R)∧p1∧p2∧p3∧p4∧p5∧p6∧p7∧p8∧p9:=⟨h.1,f1 h.2,f2 h.2,f3 h.2,f4 h.2,f5 h.2,f6 h.2,f7 h.2,f8 h.2,f9 h.2⟩
theorem sw9 (w:World) (R:List Res) (h:St B w0 w R∧au v Q w R) (f1:au v Q w R→p1) (f2:au v Q w R→p2) (f3:au v Q w R→p3) (f4:au v Q w R→p4) (f5:au v Q w R→p5) (f6:au v Q w R→p6) (f7:au v Q w R→p7) (f8:au v Q w R→p8) (f9:au v Q w R→p9):Hid (St B w0 w R)∧p1∧p2∧p3∧p4∧p5∧p6∧p7∧p8∧p9:=⟨h.1,f1 h.2,f2 h.2,f3 h.2,f4 h.2,f5 h.2,f6 h.2,f7 h.2,f8 h.2,f9 h.2⟩
end
end
end Go.Proofs.YtdmocjnjbihloaaDoor
