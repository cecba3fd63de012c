/- A region that draws its order, whose operations make things alone: what each yields is told by a fact that stays, in whatever order they come. No condition beside the law's own. -/
import Derived.Test.YtdmocjnjbihloaaDoorRegion
import Derived.Below
namespace Go.Proofs.YtdmocjnjbihloaaDoor
open Go Go.RowKit
section
variable {P:Program} {ops:Array Oper} {Q:Exit→Act→World→Prop}
def dstAt (ops:Array Oper) (i:Nat):Option Tmp:=(ops[i]?).bind (·.dst)
def needs (ops:Array Oper) (i:Nat):List Nat:=match ops[i]? with
 |none=>[]
 |some o=>(List.range ops.size).filter fun j=>match dstAt ops j with
  |some t=>(o.looksAt ops).contains t
  |none=>false
def setAll (ops:Array Oper) (vs:Nat→Value):List Nat→Act→Act
 | [],a=>a
 |j::r,a=>setAll ops vs r (a.put (dstAt ops j) (vs j))
def invOk (n:Nat) (ops:Array Oper):Bool:=
 Region.noSelect ops&&jM (Region.before ops) ops&&mM (Region.before ops) [] ops&&(List.range ops.size).all fun i=>match dstAt ops i with
  |some t=>decide (t<n)
  |none=>false
theorem setAll_defers {vs:Nat→Value}:∀(js:List Nat) (a:Act),(setAll ops vs js a).defers=a.defers
 | [],_=>rfl
 |_::r,_=>(setAll_defers r _).trans (put_defers _ _ _)
theorem setAll_size {vs:Nat→Value}:∀(js:List Nat) (a:Act),(setAll ops vs js a).tmps.size=a.tmps.size
 | [],_=>rfl
 |_::r,_=>(setAll_size r _).trans (kY _ _ _)
theorem setAll_get {vs:Nat→Value} {t j0:Nat} (h0:dstAt ops j0=some t) (hu:∀j,dstAt ops j=some t→j=j0):∀(js:List Nat) (a:Act),t<a.tmps.size→(setAll ops vs js a).tmps[t]?=if j0∈js then some (vs j0) else a.tmps[t]?
 | [],a,_=>by simp[setAll]
 |j::r,a,ht=>by
  have ih:=setAll_get (vs:=vs) h0 hu r (a.put (dstAt ops j) (vs j)) (by rw[kY];exact ht);rw[setAll,ih,mY];by_cases hj:j=j0
  ·subst hj;simp[h0,ht]
  ·have hd:dstAt ops j≠some t:=fun e=>hj (hu j e);have hj':j0≠j:=fun e=>hj e.symm;simp[hd,hj']
theorem setAll_free {vs:Nat→Value} {t:Nat} (hu:∀j,dstAt ops j≠some t):∀(js:List Nat) (a:Act),(setAll ops vs js a).tmps[t]?=a.tmps[t]?
 | [],_=>rfl
 |j::r,a=>by
  rw[setAll,setAll_free hu r,mY,if_neg (fun h=>hu j h.1)]
def OpI (ops:Array Oper) (F:Nat→World→Value→Prop) (a0:Act) (i:Nat) (w:World) (a':Act) (w':World):Prop:=
 ∃v,(∀t,dstAt ops i=some t→a'.tmps[t]?=some v)∧a'.defers=a0.defers∧F i w' v∧Below w.heap.size w w'
structure RInv (ops:Array Oper) (F:Nat→World→Value→Prop) (a0:Act) (w0:World) (listed:Array Bool) (a:Act) (w:World):Prop where
 size:listed.size=ops.size
 shut:Shut ops listed
 below:Below w0.heap.size w0 w
 defs:a.defers=a0.defers
 mE:a.tmps.size=a0.tmps.size
 frame:∀t:Nat,(∀i,listed.getD i false=true→dstAt ops i≠some t)→a.tmps[t]?=a0.tmps[t]?
 vals:∀i t,listed.getD i false=true→dstAt ops i=some t→∃v,a.tmps[t]?=some v∧F i w v
section
variable {F:Nat→World→Value→Prop} {a0:Act} {w0:World} {listed:Array Bool} {a:Act} {w:World}
theorem dst_in {i t:Nat} (h:dstAt ops i=some t):∃o,ops[i]?=some o∧o.dst=some t∧i<ops.size:=by
 unfold dstAt at h
 cases ho:ops[i]? with
 |none=>rw[ho] at h;cases h
 |some o=>rw[ho] at h;exact⟨o,rfl,h,(Array.getElem?_eq_some_iff.1 ho).1⟩
theorem dst_one {T:Array Nat} {lo:List Nat} (hD:mM T lo ops=true) {j k t:Nat} (hj:dstAt ops j=some t) (hk:dstAt ops k=some t):j=k:=by
 obtain⟨oj,h1,h2,-⟩:=dst_in hj;obtain⟨ok,h3,h4,-⟩:=dst_in hk;by_cases e:j=k
 ·exact e
 ·exact absurd h2 (dst_ne hD h1 h3 e h4)
theorem RInv.pickV (I:RInv ops F a0 w0 listed a w):∃vs:Nat→Value,∀i t,listed.getD i false=true→dstAt ops i=some t→a.tmps[t]?=some (vs i)∧F i w (vs i):=by
 have h:∀i,∃v,∀t,listed.getD i false=true→dstAt ops i=some t→a.tmps[t]?=some v∧F i w v:=fun i=>by
  cases hl:listed.getD i false with
  |false=>exact⟨undef,fun t h=>by cases h⟩
  |true=>
   cases hd:dstAt ops i with
   |none=>exact⟨undef,fun t _ h=>by cases h⟩
   |some t=>
    obtain⟨v,h1,h2⟩:=I.vals i t hl hd;exact⟨v,fun t' _ h=>by injection h with h;subst h;exact⟨h1,h2⟩⟩
 obtain⟨vs,hvs⟩:=Classical.axiomOfChoice h;exact⟨vs,fun i t=>hvs i t⟩
theorem RInv.step {n:Nat} (hB:invOk n ops=true) (hn:n=a0.tmps.size) (hF:∀i v w w',Below w.heap.size w w'→F i w v→F i w' v) {R:Act→World→Prop} {K':Act→World→Prop}
  (hop:∀i,i<ops.size→∀(vs:Nat→Value) (w:World),Below w0.heap.size w0 w→(∀j∈needs ops i,F j w (vs j))→wpList P ops (fun e a' w'=>e= .normal∧OpI ops F a0 i w a' w') (pick ops [i]) (setAll ops vs (needs ops i) a0) w)
  (I:RInv ops F a0 w0 listed a w) {i:Nat} (hi:i∈Region.ready .any ops listed) (hK:∀a' w',RInv ops F a0 w0 (listed.setIfInBounds i true) a' w'→K' a' w'):wpOp P ops (fun e a' w'=>e= .normal∧R a' w') i K' a w:=by
 simp only[invOk,Bool.and_eq_true] at hB;obtain⟨⟨⟨hS,hT⟩,hD⟩,hI⟩:=hB;obtain⟨hun,oi,hoi,hall⟩:=mem_ready.1 hi;have hin:i<ops.size:=(Array.getElem?_eq_some_iff.1 hoi).1;have hil:i<listed.size:=(by rw[I.size];exact hin);obtain⟨vs,hvs⟩:=I.pickV;have hlt:∀j t,dstAt ops j=some t→t<a0.tmps.size:=fun j t hd=>by
  obtain⟨_,_,_,hj⟩:=dst_in hd;have h1:=List.all_eq_true.1 hI j (List.mem_range.2 hj);rw[hd] at h1;have h2:t<n:=(by simpa using h1);exact hn ▸ h2
 have hne:∀j t,dstAt ops j=some t→t∈oi.looksAt ops→listed.getD j false=true:=fun j t hd ht=>by
  obtain⟨oj,h1,h2,hj⟩:=dst_in hd;exact lQ hT I.size I.shut hj hi (lS hD hoi h1 h2 ht (by rfl))
 have hmem:∀j,j∈needs ops i↔∃t,dstAt ops j=some t∧t∈oi.looksAt ops:=fun j=>by
  unfold needs;simp only[hoi,List.mem_filter,List.mem_range];constructor
  ·rintro⟨h1,h2⟩
   cases hd:dstAt ops j with
   |none=>rw[hd] at h2;cases h2
   |some t=>rw[hd] at h2;exact⟨t,rfl,by simpa using h2⟩
  ·rintro⟨t,h1,h2⟩;obtain⟨_,_,_,hj⟩:=dst_in h1;exact⟨hj,by rw[h1];simpa using h2⟩
 have hfs:∀j∈needs ops i,F j w (vs j):=fun j hj=>by
  obtain⟨t,h1,h2⟩:=(hmem j).1 hj;exact(hvs j t (hne j t h1 h2) h1).2
 have hsame:∀t∈oi.looksAt ops,a.tmps[t]?=(setAll ops vs (needs ops i) a0).tmps[t]?:=fun t ht=>by
  by_cases hex:∃j,dstAt ops j=some t
  ·obtain⟨j,hj⟩:=hex;rw[setAll_get hj (fun k hk=>dst_one hD hk hj) _ _ (hlt j t hj),if_pos ((hmem j).2 ⟨t,hj,ht⟩)];exact(hvs j t (hne j t hj ht) hj).1
  ·rw[setAll_free (fun j e=>hex ⟨j,e⟩)];exact I.frame t fun j _ e=>hex ⟨j,e⟩
 obtain⟨he,hw⟩:=rq (Region.noSelect_spec hS i oi · · hoi) hsame;have hd:a.defers=(setAll ops vs (needs ops i) a0).defers:=(by rw[setAll_defers,I.defs]);have h0:=hop i hin vs w I.below hfs;simp only[pick,hoi] at h0;have hx:∀(e:Exit) (a:Act) (w':World),e≠ .normal→(e=Exit.normal∧OpI ops F a0 i w a w')→(e=Exit.normal∧R a w'):=fun e a w' hne h=>absurd h.1 hne;have h1:wpOp P ops (fun e a' w'=>e= .normal∧R a' w') i (fun a' w'=>OpI ops F a0 i w a' w') (setAll ops vs (needs ops i) a0) w:=by
  unfold wpOp;simp only[hoi];simp only[wpList] at h0;split
  ·rename_i hwd
   simp only[hwd,if_true] at h0;refine h0.imp (fun h=>?_) (fun h=>⟨h.1,?_⟩)
   ·unfold Oper.wp at*;generalize (execOp (setAll ops vs (needs ops i) a0).eval oi).run P w=x at*
    cases x with
    |ok n w'=>
     cases n<;>simp only[Oper.upon] at h ⊢ <;>
      first
       |exact h.2
       |exact Calls.mono h (fun e w'' he=>by
         cases e
         ·exact he.2
         ·exact hx _ _ _ (by simp) he
         ·obtain⟨a,w,he⟩:=he;exact⟨a,w,hx _ _ _ (by simp) he⟩)
       |exact Rows.mono h (fun _ _ he=>he.2)
    |halt x w'=>cases x<;>simp only[Oper.upon] at h ⊢ <;>exact hx _ _ _ (by simp) h
   ·obtain⟨a,w,he⟩:=h.2;exact⟨a,w,hx _ _ _ (by simp) he⟩
  ·rename_i hwd
   simp only[hwd] at h0;exact h0.2
 refine wpOp_sim hoi he hw hd (fun c a w h=>by cases h.1) h1 fun v ds w' hh=>hK _ _ ?_;obtain⟨v',g1,g2,g3,g4⟩:=hh;have hdi:dstAt ops i=oi.dst:=(by unfold dstAt;rw[hoi];rfl);have hds:ds=a0.defers:=(by rw[put_defers] at g2;exact g2);subst hds;refine⟨by simpa using I.size,qM I.shut hi,I.below.trans (g4.mono I.below.size),by rw[put_defers],by rw[kY];exact I.mE,fun t ht=>?_,fun j t hj hdj=>?_⟩
 ·have hti:oi.dst≠some t:=fun e=>ht i (by simp[hil]) (hdi.trans e);rw[mY,if_neg (fun e=>hti e.1)];refine I.frame t fun j hj=>ht j (getD_set_true hj)
 ·by_cases hji:j=i
  ·subst hji;have ht0:=hlt j t hdj;have e1:=g1 t hdj;have hod:oi.dst=some t:=hdi ▸ hdj;rw[mY,if_pos ⟨hod,by show t<(setAll ops vs (needs ops j) a0).tmps.size;rw[setAll_size];exact ht0⟩] at e1;injection e1 with e1
   subst e1;exact⟨v,by rw[mY,if_pos ⟨hod,by show t<a.tmps.size;rw[I.mE];exact ht0⟩],g3⟩
  ·have hjl:listed.getD j false=true:=by
    rcases nL hj with h|h
    ·exact absurd h hji
    ·exact h
   obtain⟨u,u1,u2⟩:=I.vals j t hjl hdj;have hti:oi.dst≠some t:=fun e=>hji (dst_one hD hdj (hdi.trans e));exact⟨u,by rw[mY,if_neg (fun e=>hti e.1)];exact u1,hF j u _ _ g4 u2⟩
theorem RInv.any {n:Nat} (hB:invOk n ops=true) (hn:n=a0.tmps.size) (hF:∀i v w w',Below w.heap.size w w'→F i w v→F i w' v) {R:Act→World→Prop}
  (hop:∀i,i<ops.size→∀(vs:Nat→Value) (w:World),Below w0.heap.size w0 w→(∀j∈needs ops i,F j w (vs j))→wpList P ops (fun e a' w'=>e= .normal∧OpI ops F a0 i w a' w') (pick ops [i]) (setAll ops vs (needs ops i) a0) w)
  (hend:∀(vs:Nat→Value) (w:World),Below w0.heap.size w0 w→(∀i,i<ops.size→F i w (vs i))→R (setAll ops vs (List.range ops.size) a0) w):
  ∀(fuel:Nat) {listed:Array Bool} {a:Act} {w:World},RInv ops F a0 w0 listed a w→listed.toList.count false=fuel→wpAny P .any ops (fun e a' w'=>e= .normal∧R a' w') fuel listed a w:=by
 have hB':=hB;simp only[invOk,Bool.and_eq_true] at hB';obtain⟨⟨⟨hS,hT⟩,hD⟩,hI⟩:=hB';have fin:∀{listed:Array Bool} {a:Act} {w:World},RInv ops F a0 w0 listed a w→Region.ready .any ops listed= []→R a w:=fun {listed a w} I hr=>by
  have hall:=tH hT I.size hr;obtain⟨vs,hvs⟩:=I.pickV;have hdt:∀i,i<ops.size→∃t,dstAt ops i=some t∧t<a0.tmps.size:=fun i hi=>by
   have h1:=List.all_eq_true.1 hI i (List.mem_range.2 hi)
   cases hd:dstAt ops i with
   |none=>rw[hd] at h1;cases h1
   |some t=>
    rw[hd] at h1;have h2:t<n:=(by simpa using h1);exact⟨t,rfl,hn ▸ h2⟩
  have e:a=setAll ops vs (List.range ops.size) a0:=by
   refine act_ext (by rw[setAll_defers,I.defs]) fun t=>?_;by_cases hex:∃j,dstAt ops j=some t
   ·obtain⟨j,hj⟩:=hex;obtain⟨_,_,_,hjn⟩:=dst_in hj;obtain⟨t',h1,h2⟩:=hdt j hjn;rw[hj] at h1;injection h1 with h1
    subst h1;rw[setAll_get hj (fun k hk=>dst_one hD hk hj) _ _ h2,if_pos (List.mem_range.2 hjn)];exact(hvs j t (hall j hjn) hj).1
   ·rw[setAll_free (fun j e=>hex ⟨j,e⟩)];exact I.frame t fun j _ e=>hex ⟨j,e⟩
  rw[e];exact hend vs w I.below fun i hi=>by
   obtain⟨t,h1,-⟩:=hdt i hi;exact(hvs i t (hall i hi) h1).2
 intro fuel;induction fuel with
 |zero=>
  intro listed a w I hf;have hr:Region.ready .any ops listed= []:=by
   apply List.eq_nil_iff_forall_not_mem.2
   intro i hi;obtain⟨hun,oi,hoi,_⟩:=mem_ready.1 hi;have hil:i<listed.size:=(by rw[I.size];exact(Array.getElem?_eq_some_iff.1 hoi).1);have h1:listed[i]=false:=(by simpa[hil] using hun);have:false∈listed.toList:=(by rw[←h1];simp);exact absurd (List.count_pos_iff.2 this) (by omega)
  exact⟨hr,rfl,fin I hr⟩
 |succ fuel ih=>
  intro listed a w I hf;refine⟨fun hr=>⟨rfl,fin I hr⟩,fun i hi=>?_⟩;obtain⟨hun,oi,hoi,_⟩:=mem_ready.1 hi;have hin:i<ops.size:=(Array.getElem?_eq_some_iff.1 hoi).1;have hil:i<listed.size:=(by rw[I.size];exact hin);have hf':(listed.setIfInBounds i true).toList.count false=fuel:=by
   have h1:listed.toList[i]'(by simpa using hil)=false:=(by simpa[hil] using hun);rw[Array.toList_setIfInBounds,List.count_set (by simpa using hil),h1];simp at hf ⊢
   omega
  exact I.step hB hn hF hop hi fun a' w' I'=>ih I' hf'
end
theorem wp_region_inv {id:Nat} {a0:Act} {w0:World} {l:List Oper} (F:Nat→World→Value→Prop) (R:Act→World→Prop) (n:Nat) (hm:P.follows .mixedOrders=true) (hB:invOk n l.toArray=true) (hn:n=a0.tmps.size) (hF:∀i v w w',Below w.heap.size w w'→F i w v→F i w' v)
  (hop:∀i,i<l.toArray.size→∀(vs:Nat→Value) (w:World),Below w0.drew.heap.size w0.drew w→(∀j∈needs l.toArray i,F j w (vs j))→wpList P l.toArray (fun e a' w'=>e= .normal∧OpI l.toArray F a0 i w a' w') (pick l.toArray [i]) (setAll l.toArray vs (needs l.toArray i) a0) w)
  (hend:∀(vs:Nat→Value) (w:World),Below w0.drew.heap.size w0.drew w→(∀i,i<l.toArray.size→F i w (vs i))→R (setAll l.toArray vs (List.range l.toArray.size) a0) w)
  (hR:∀a' w',R a' w'→Q .normal a' w'):(Code.region id l.toArray true).wp P Q a0 w0:=by
 refine Code.wp_mono (Q:=fun e a' w'=>e= .normal∧R a' w') (fun e a' w' h=>by obtain⟨rfl,h⟩:=h;exact hR a' w' h) (wp_region_any hm ?_);refine RInv.any hB hn hF hop hend _ ⟨by simp,fun j oj _ hl=>(by rw[getD_replicate_false] at hl;cases hl),Below.refl _ _,rfl,rfl,fun _ _=>rfl,fun i t hl=>(by rw[getD_replicate_false] at hl;cases hl)⟩ ?_;simp
def setT (ds:List Nat) (vs:Nat→Value):List Nat→Act→Act
 | [],a=>a
 |j::r,a=>setT ds vs r (a.put (some (ds.getD j 0)) (vs j))
def tabOk (ds:List Nat) (nd:List (List Nat)) (ops:Array Oper):Bool:=
 (List.range ops.size).all fun i=>decide (dstAt ops i=some (ds.getD i 0))&&decide (needs ops i=nd.getD i [])
def AllUp (p:Nat→Prop):Nat→Nat→Prop
 |_,0=>True
 |k,m+1=>p k∧AllUp p (k+1) m
theorem allUp_step {p:Nat→Prop} {k k' m m':Nat} (hk:k+1=k') (hm:m=m'+1) (h:p k) (h':AllUp p k' m'):AllUp p k m:=by
 subst hk hm;exact⟨h,h'⟩
theorem allUp_done {p:Nat→Prop} {k:Nat}:AllUp p k 0:=trivial
theorem allUp_get {p:Nat→Prop}:∀(m k:Nat),AllUp p k m→∀i,k≤i→i<k+m→p i
 |0,_,_,_,_,_=>by omega
 |m+1,k,h,i,h1,h2=>by
  by_cases e:i=k
  ·subst e;exact h.1
  ·exact allUp_get m (k+1) h.2 i (by omega) (by omega)
def OpT (ds:List Nat) (F:Nat→World→Value→Prop) (a0:Act) (i:Nat) (w:World) (a':Act) (w':World):Prop:=
 ∃v,a'.tmps[ds.getD i 0]?=some v∧a'.defers=a0.defers∧F i w' v∧Below w.heap.size w w'
theorem setT_is {ds:List Nat} {vs:Nat→Value}:∀(js:List Nat) (a:Act),(∀j∈js,dstAt ops j=some (ds.getD j 0))→setAll ops vs js a=setT ds vs js a
 | [],_,_=>rfl
 |j::r,a,h=>by
  rw[setAll,setT,h j (by simp)];exact setT_is r _ (fun k hk=>h k (by simp[hk]))
theorem wp_region_tab {id:Nat} {a0:Act} {w0:World} {l:List Oper} (F:Nat→World→Value→Prop) (n m:Nat) (ds:List Nat) (nd:List (List Nat)) (js:List Nat) (hm:P.follows .mixedOrders=true) (hB:invOk n l.toArray=true) (hT:tabOk ds nd l.toArray=true) (hl:l.toArray.size=m) (hj:List.range m=js) (hn:n=a0.tmps.size)
  (hF:∀i v w w',Below w.heap.size w w'→F i w v→F i w' v)
  (hop:AllUp (fun i=>∀(vs:Nat→Value) (w:World),Below w0.drew.heap.size w0.drew w→(∀j∈nd.getD i [],F j w (vs j))→wpList P l.toArray (fun e a' w'=>e= .normal∧OpT ds F a0 i w a' w') (pick l.toArray [i]) (setT ds vs (nd.getD i []) a0) w) 0 m)
  (hend:∀(vs:Nat→Value) (w:World),Below w0.drew.heap.size w0.drew w→(∀i,i<m→F i w (vs i))→Q .normal (setT ds vs js a0) w):(Code.region id l.toArray true).wp P Q a0 w0:=by
 have ht:∀i,i<l.toArray.size→dstAt l.toArray i=some (ds.getD i 0)∧needs l.toArray i=nd.getD i []:=fun i hi=>by
  have h1:=List.all_eq_true.1 hT i (List.mem_range.2 hi);simpa only[Bool.and_eq_true,decide_eq_true_eq] using h1
 subst hj;refine wp_region_inv F (fun a w=>∃vs,a=setT ds vs (List.range m) a0∧Below w0.drew.heap.size w0.drew w∧∀i,i<m→F i w (vs i)) n hm hB hn hF (fun i hi vs w hb hf=>?_) (fun vs w hb hf=>?_) (fun a' w' ⟨vs,e,h1,h2⟩=>e ▸ hend vs w' h1 h2)
 ·obtain⟨h1,h2⟩:=ht i hi;rw[h2] at hf ⊢;have h3:=allUp_get m 0 hop i (Nat.zero_le _) (by omega) vs w hb hf;rw[setT_is (ds:=ds) _ _ (fun j hj=>by
   rw[←h2] at hj;unfold needs at hj;split at hj
   ·cases hj
   ·exact(ht j (List.mem_range.1 (List.mem_filter.1 hj).1)).1)]
  have key:∀(e:Exit) (a':Act) (w':World),(e= .normal∧OpT ds F a0 i w a' w')=(e= .normal∧OpI l.toArray F a0 i w a' w'):=fun e a' w'=>by
   unfold OpT OpI;rw[h1];refine propext ⟨fun⟨h,v,g1,g2⟩=>⟨h,v,fun t ht=>by injection ht with ht;subst ht;exact g1,g2⟩,fun⟨h,v,g1,g2⟩=>⟨h,v,g1 _ rfl,g2⟩⟩
  have e9:(fun (e:Exit) (a':Act) (w':World)=>e= .normal∧OpT ds F a0 i w a' w')=fun e a' w'=>e= .normal∧OpI l.toArray F a0 i w a' w':=by
   funext e a' w'
   exact key e a' w'
  rw[e9] at h3;exact h3
 ·rw[hl,setT_is (ds:=ds) _ _ (fun j hj=>(ht j (by rw[hl];exact List.mem_range.1 hj)).1)];exact⟨vs,rfl,hb,fun i hi=>hf i (by rw[hl];exact hi)⟩
end
end Go.Proofs.YtdmocjnjbihloaaDoor
