/- A region that draws its order, whose calls, stores and makings come in one order: it is walked once, in the order of a plan; what was read ahead of a call is read again behind it. No condition beside the plan's own. A region that draws its order, whose calls, stores and makings come in a few orders: it is walked once along each, by a tree of plans; behind it stands a post of its own. No condition beside the tree's own. -/
import Derived.StillTail
import Derived.StillTactics
import Derived.Deep.RegionHeld3
namespace Go.Proofs.YtdmocjnjbihloaaDoor
section
open Go
inductive Seg where
 |still (l:List Nat)
 |loud (i:Nat) (ps:List Nat)
def pick (ops:Array Oper):List Nat→List Oper
 | []=>[]
 |i::r=>match ops[i]? with
  |some o=>o::pick ops r
  |none=>pick ops r
section
variable {P:Program} {ops:Array Oper} {Q:Exit→Act→World→Prop}
def kW (P:Program) (ops:Array Oper) (w:World) (a:Act):List Nat→Prop
 | []=>True
 |j::r=>wpStill P ops w (fun a'=>a'=a) (pick ops [j]) a∧kW P ops w a r
def bef (T:Array Nat) (j i:Nat):Bool:=(T.getD j 0).testBit i
def jM (T:Array Nat) (ops:Array Oper):Bool:=
 (List.range ops.size).all fun j=>match ops[j]? with
  |none=>true
  |some o=>(o.after.all fun e=> !Region.binds .any e||decide (e.on<j))&&
    (List.range ops.size).all fun i=> !bef T j i||o.after.any fun e=>Region.binds .any e&&(e.on==i||bef T e.on i)
def mM (T:Array Nat) (lo:List Nat) (ops:Array Oper):Bool:=
 (List.range ops.size).all fun k=>match (ops[k]?).bind (·.dst) with
  |none=>true
  |some t=>(List.range ops.size).all fun j=>match ops[j]? with
   |none=>true
   |some o=>(!(o.looksAt ops).contains t||bef T j k||(lo.contains k&&bef T k j))&&(j==k||o.dst !=some t)
theorem tbl_edge {T:Array Nat} (hT:jM T ops=true) {j i:Nat} {o:Oper} (ho:ops[j]?=some o) (hi:i<ops.size) (h:bef T j i=true):
  ∃e∈o.after,Region.binds .any e=true∧e.on<j∧(e.on=i∨bef T e.on i=true):=by
 have hj:j<ops.size:=(Array.getElem?_eq_some_iff.1 ho).1;have h1:=List.all_eq_true.1 hT j (List.mem_range.2 hj);simp only[ho,Bool.and_eq_true] at h1;have h2:=List.all_eq_true.1 h1.2 i (List.mem_range.2 hi);simp only[h,Bool.not_true,Bool.false_or] at h2;obtain⟨e,he,hb⟩:=Array.any_eq_true'.1 h2;simp only[Bool.and_eq_true,Bool.or_eq_true,beq_iff_eq] at hb;have h3:=Array.all_eq_true'.1 h1.1 e he;simp only[hb.1,Bool.not_true,Bool.false_or,decide_eq_true_eq] at h3;exact⟨e,he,hb.1,h3,hb.2⟩
def Shut (ops:Array Oper) (listed:Array Bool):Prop:=
 ∀j oj,ops[j]?=some oj→listed.getD j false=true→∀e∈oj.after,Region.binds .any e=true→listed.getD e.on false=true
theorem listed_bef {T:Array Nat} (hT:jM T ops=true) {listed:Array Bool} (hs:listed.size=ops.size) (hc:Shut ops listed) {i:Nat} (hi:i<ops.size):
  ∀j,listed.getD j false=true→bef T j i=true→listed.getD i false=true:=by
 intro j;induction j using Nat.strongRecOn with
 |_ j ih=>
  intro hl hb;have hj:j<ops.size:=by
   rcases Nat.lt_or_ge j ops.size with h|h
   ·exact h
   ·simp[Array.getElem?_eq_none (show listed.size≤j by omega)] at hl
  have ho:ops[j]?=some ops[j]:=Array.getElem?_eq_getElem hj;obtain⟨e,he,hbe,hlt,h⟩:=tbl_edge hT ho hi hb;have h1:=hc j _ ho hl e he hbe;rcases h with h|h
  ·rw[←h];exact h1
  ·exact ih e.on hlt h1 h
theorem lQ {T:Array Nat} (hT:jM T ops=true) {listed:Array Bool} (hs:listed.size=ops.size) (hc:Shut ops listed) {i j:Nat} (hi:i<ops.size)
  (hj:j∈Region.ready .any ops listed) (hb:bef T j i=true):listed.getD i false=true:=by
 obtain⟨_,o,ho,hall⟩:=mem_ready.1 hj;obtain⟨e,he,hbe,_,h⟩:=tbl_edge hT ho hi hb;have h1:=hall e he hbe;rcases h with h|h
 ·rw[←h];exact h1
 ·exact listed_bef hT hs hc hi _ h1 h
theorem lS {T:Array Nat} {lo:List Nat} (hD:mM T lo ops=true) {j k t:Nat} {oj ok:Oper} (hj:ops[j]?=some oj) (hk:ops[k]?=some ok) (ht:ok.dst=some t) (h:t∈oj.looksAt ops) (hq:lo.contains k=false):bef T j k=true:=by
 have h1:=List.all_eq_true.1 hD k (List.mem_range.2 (Array.getElem?_eq_some_iff.1 hk).1);simp only[hk,Option.bind_some,ht] at h1;have h2:=List.all_eq_true.1 h1 j (List.mem_range.2 (Array.getElem?_eq_some_iff.1 hj).1);simp only[hj,Bool.and_eq_true,Bool.or_eq_true,Bool.not_eq_true'] at h2;rcases h2.1 with (h3|h3)|h3
 ·rw[List.contains_iff_mem.2 h] at h3;cases h3
 ·exact h3
 ·rw[hq] at h3;cases h3.1
theorem dst_ne {T:Array Nat} {lo:List Nat} (hD:mM T lo ops=true) {j k t:Nat} {oj ok:Oper} (hj:ops[j]?=some oj) (hk:ops[k]?=some ok) (hne:j≠k) (ht:ok.dst=some t):oj.dst≠some t:=by
 have h1:=List.all_eq_true.1 hD k (List.mem_range.2 (Array.getElem?_eq_some_iff.1 hk).1);simp only[hk,Option.bind_some,ht] at h1;have h2:=List.all_eq_true.1 h1 j (List.mem_range.2 (Array.getElem?_eq_some_iff.1 hj).1);simp only[hj,Bool.and_eq_true,Bool.or_eq_true,beq_iff_eq,bne_iff_ne,ne_eq] at h2;exact h2.2.resolve_left hne
theorem mY (a:Act) (d:Option Tmp) (v:Value) (t:Nat):(a.put d v).tmps[t]?=if d=some t∧t<a.tmps.size then some v else a.tmps[t]?:=by
 cases d with
 |none=>simp[Act.put]
 |some d=>
  simp only[Act.put,Array.getElem?_setIfInBounds,Option.some.injEq];by_cases h:d=t
  ·subst h;by_cases h2:d<a.tmps.size
   ·simp[h2]
   ·simp[h2]
  ·simp[h]
theorem kY (a:Act) (d:Option Tmp) (v:Value):(a.put d v).tmps.size=a.tmps.size:=by
 cases d<;>simp[Act.put]
theorem put_defers (a:Act) (d:Option Tmp) (v:Value):(a.put d v).defers=a.defers:=by
 cases d<;>rfl
theorem act_ext {a b:Act} (h1:a.defers=b.defers) (h2:∀t:Nat,a.tmps[t]?=b.tmps[t]?):a=b:=by
 cases a;cases b
 simp only at h1 h2;subst h1;congr
 exact Array.ext_getElem? h2
theorem put_put (a:Act) (d:Option Tmp) (v:Value):(a.put d v).put d v=a.put d v:=by
 cases d<;>simp[Act.put]
theorem rq {a A:Act} {o:Oper} (hs:∀cs b,o.op≠ .select cs b) (h:∀t∈o.looksAt ops,a.tmps[t]?=A.tmps[t]?):
  execOp a.eval o=execOp A.eval o∧Region.wanted o (yielded ops a.tmps)=Region.wanted o (yielded ops A.tmps):=by
 constructor
 ·refine execOp_congr o hs fun x hx=>?_
  cases x with
  |tmp t=>
   have:=h t (List.mem_append_left _ (List.mem_filterMap.2 ⟨.tmp t,by simpa using hx,rfl⟩));simp[Act.eval,Array.getD_eq_getD_getElem?,this]
  |_=>rfl
 ·unfold Region.wanted
  cases hg:o.guard with
  |none=>rfl
  |some gw=>
   obtain⟨g,want⟩:=gw;have hy:yielded ops a.tmps g=yielded ops A.tmps g:=by
    unfold yielded
    cases ht:(ops[g]?).bind (·.dst) with
    |none=>rfl
    |some t=>
     have:=h t (by simp[Oper.looksAt,hg,ht]);simp[this]
   simp only[hy]
section
variable {T:Array Nat} {lo:List Nat} {listed:Array Bool} {a A:Act} {w:World} {pre:List Nat} {r:List (Nat×Option (List Nat))}
theorem qM (hc:Shut ops listed) {i:Nat} (hi:i∈Region.ready .any ops listed):Shut ops (listed.setIfInBounds i true):=by
 obtain⟨_,oi,hoi,hall⟩:=mem_ready.1 hi;intro j oj hj hl e he hb;by_cases hij:i=j
 ·subst hij;have:oj=oi:=Option.some.inj (hj.symm.trans hoi);subst this;exact getD_set_true (hall e he hb)
 ·rw[getD_set_ne false hij] at hl;exact getD_set_true (hc j oj hj hl e he hb)
theorem nL {i j:Nat} (h:(listed.setIfInBounds i true).getD j false=true):j=i∨listed.getD j false=true:=by
 by_cases hij:i=j
 ·exact .inl hij.symm
 ·rw[getD_set_ne false hij] at h;exact .inr h
theorem gK {i j:Nat} (hi:i<listed.size) (h:(listed.setIfInBounds i true).getD j false=false):j≠i∧listed.getD j false=false:=by
 by_cases hij:i=j
 ·subst hij;simp[hi] at h
 ·rw[getD_set_ne false hij] at h;exact⟨fun e=>hij e.symm,h⟩
theorem wpOp_sim {i:Nat} {oi:Oper} (ho:ops[i]?=some oi) (he:execOp a.eval oi=execOp A.eval oi) (hw:Region.wanted oi (yielded ops a.tmps)=Region.wanted oi (yielded ops A.tmps)) (hd:a.defers=A.defers)
  (hQ:∀c a w,¬Q (.panic c) a w) {K K':Act→World→Prop} (h:wpOp P ops Q i K A w)
  (hK:∀v ds w',K (({A with defers:=ds}:Act).put oi.dst v) w'→K' (({a with defers:=ds}:Act).put oi.dst v) w'):wpOp P ops Q i K' a w:=by
 have hK0:∀v w',K (A.put oi.dst v) w'→K' (a.put oi.dst v) w':=fun v w' h=>by
  have:=hK v A.defers w' h;rw[←hd] at this;exact this
 unfold wpOp at*;simp only[ho] at*;rw[hw];split
 ·rename_i hw
  simp only[hw,if_true] at h;rcases h with h|⟨hasks,hlets⟩
  case inr=>exact .inr ⟨by unfold Oper.asks at*;rw[he];exact hasks,hlets⟩
  refine .inl ?_;unfold Oper.wp at*;rw[he];generalize (execOp A.eval oi).run P w=x at*
  cases x with
  |ok n w'=>
   cases n<;>simp only[Oper.upon] at h ⊢
   case value u=>exact hK0 _ _ h
   case skip=>exact hK0 _ _ h
   case defer d=>rw[hd];exact hK _ _ _ h
   case enter f args=>
    refine Calls.mono h fun e w'' he=>?_
    cases e with
    |returned u=>exact hK0 _ _ he
    |panicked c=>exact(hQ _ _ _ he).elim
    |outgrown=>exact he
   case row row args=>exact Rows.mono h fun u w'' he=>hK0 _ _ he
  |halt x w'=>
   cases x<;>simp only[Oper.upon] at h ⊢
   case panic u=>exact(hQ _ _ _ h).elim
 ·rename_i hw
  simp only[hw] at h;exact hK0 _ _ h
theorem again_at:∀{ps:List Nat},kW P ops w A ps→∀j∈ps,∀oj,ops[j]?=some oj→∃v,YieldsAt P ops w oj v A∧A.put oj.dst v=A
 | [],_,j,hj,_,_=>by cases hj
 |k::ps,h,j,hj,oj,hoj=>by
  rcases List.mem_cons.1 hj with rfl|hj
  ·have h1:=h.1;simp only[pick,hoj] at h1;have h2:stOp P ops w j (wpStill P ops w (fun a'=>a'=A) []) A:=(by unfold stOp;simp only[hoj];exact h1);exact yieldsAt_of_stOp hoj h2
  ·exact again_at h.2 j hj oj hoj
theorem tH (hT:jM T ops=true) (hs:listed.size=ops.size) (hr:Region.ready .any ops listed= []):∀i,i<ops.size→listed.getD i false=true:=by
 intro i;induction i using Nat.strongRecOn with
 |_ i ih=>
  intro hi
  cases hl:listed.getD i false with
  |true=>rfl
  |false=>
   have ho:ops[i]?=some ops[i]:=Array.getElem?_eq_getElem hi;have h1:=List.all_eq_true.1 hT i (List.mem_range.2 hi);simp only[ho,Bool.and_eq_true] at h1;have:i∈Region.ready .any ops listed:=mem_ready.2 ⟨getD_in (by omega) hl,_,ho,fun e he hb=>by
    have h3:=Array.all_eq_true'.1 h1.1 e he;simp only[hb,Bool.not_true,Bool.false_or,decide_eq_true_eq] at h3;exact ih e.on h3 (by omega)⟩
   rw[hr] at this
   cases this
end
end
end
section
open Go
inductive Tr where
 |done
 |still (l:List Nat) (t:Tr)
 |loud (i:Nat) (ps:List Nat) (t:Tr)
 |alt (a b:Tr)
inductive FT where
 |done
 |one (i:Nat) (t:FT)
 |loud (i:Nat) (ps:List Nat) (t:FT)
 |alt (a b:FT)
def Tr.flat:Tr→FT
 | .done=> .done
 | .still l t=>l.foldr .one t.flat
 | .loud i ps t=> .loud i ps t.flat
 | .alt a b=> .alt a.flat b.flat
def FT.louds:FT→List Nat
 | .done=>[]
 | .one _ t=>t.louds
 | .loud i _ t=>i::t.louds
 | .alt a b=>a.louds++b.louds
def FT.heads:FT→List Nat
 | .done=>[]
 | .one _ _=>[]
 | .loud i _ _=>[i]
 | .alt a b=>a.heads++b.heads
def Tr.inB (n:Nat):Tr→Bool
 | .done=>true
 | .still l t=>(l.all fun i=>decide (i<n))&&t.inB n
 | .loud i _ t=>decide (i<n)&&t.inB n
 | .alt a b=>a.inB n&&b.inB n
section
variable {P:Program} {ops:Array Oper} {Q:Exit→Act→World→Prop}
def jQ (P:Program) (ops:Array Oper) (Q:Exit→Act→World→Prop):Tr→Act→World→Prop
 | .done,a,w=>Q .normal a w
 | .still l r,a,w=>wpStill P ops w (fun a'=>jQ P ops Q r a' w) (pick ops l) a
 | .loud i ps r,a,w=>wpList P ops (Exit.then (fun a' w'=>kW P ops w' a' ps∧jQ P ops Q r a' w') Q) (pick ops [i]) a w
 | .alt x y,a,w=>jQ P ops Q x a w∧jQ P ops Q y a w
def kE (P:Program) (ops:Array Oper) (Q:Exit→Act→World→Prop):FT→Act→World→Prop
 | .done,a,w=>Q .normal a w
 | .one i r,a,w=>stOp P ops w i (fun a'=>kE P ops Q r a' w) a
 | .loud i ps r,a,w=>wpOp P ops Q i (fun a' w'=>kW P ops w' a' ps∧kE P ops Q r a' w') a w
 | .alt x y,a,w=>kE P ops Q x a w∧kE P ops Q y a w
def gM (T:Array Nat) (lo:List Nat) (n:Nat):List Nat→List Nat→FT→Bool
 |pre,hs,.done=>hs.isEmpty&&(List.range n).all pre.contains
 |pre,hs,.one i r=>hs.isEmpty&&decide (i<n)&& !pre.contains i&&((List.range n).all fun j=> !bef T i j||pre.contains j)&& !lo.contains i&&gM T lo n (i::pre) [] r
 |pre,hs,.loud i ps r=>decide (i<n)&& !pre.contains i&&((List.range n).all fun j=> !bef T i j||pre.contains j)&&((List.range n).all fun q=>pre.contains q||(i::hs).any fun h=>q==h||bef T q h)&&
   (pre.all fun j=>bef T i j||ps.contains j||lo.contains j)&&gM T lo n (i::pre) [] r
 |pre,hs,.alt x y=> !x.heads.isEmpty&&gM T lo n pre (y.heads++hs) x&&gM T lo n pre (x.heads++hs) y
def regionOkT (ops:Array Oper) (c:Tr):Bool:=
 Region.noSelect ops&&jM (Region.before ops) ops&&mM (Region.before ops) c.flat.louds ops&&gM (Region.before ops) c.flat.louds ops.size [] [] c.flat&&c.inB ops.size
theorem mq:∀{c:Tr} {a:Act} {w:World},c.inB ops.size=true→jQ P ops Q c a w→kE P ops Q c.flat a w
 | .done,_,_,_,h=>h
 | .alt x y,_,_,hB,h=>by
  simp only[Tr.inB,Bool.and_eq_true] at hB;exact⟨mq hB.1 h.1,mq hB.2 h.2⟩
 | .still l r,a,w,hB,h=>by
  simp only[Tr.inB,Bool.and_eq_true] at hB;have ih:=fun a'=>mq (c:=r) (a:=a') (w:=w) hB.2;have hl:∀i∈l,i<ops.size:=fun i hi=>by simpa using List.all_eq_true.1 hB.1 i hi
  clear hB;simp only[jQ] at h;simp only[Tr.flat];revert a
  induction l with
  |nil=>exact fun a h=>ih a h
  |cons i l ih'=>
   intro a h;have hi:=hl i (by simp);have ho:ops[i]?=some ops[i]:=Array.getElem?_eq_getElem hi;simp only[pick,ho] at h;simp only[List.foldr_cons,kE];have h':stOp P ops w i (wpStill P ops w (fun a'=>jQ P ops Q r a' w) (pick ops l)) a:=(by unfold stOp;simp only[ho];exact h);exact stOp_mono (fun a' h=>ih' (fun j hj=>hl j (by simp[hj])) a' h) h'
 | .loud i ps r,a,w,hB,h=>by
  simp only[Tr.inB,Bool.and_eq_true,decide_eq_true_eq] at hB;have ho:ops[i]?=some ops[i]:=Array.getElem?_eq_getElem hB.1;simp only[jQ,pick,ho] at h;simp only[Tr.flat,kE];unfold wpOp;simp only[ho];simp only[wpList] at h;have hm:∀(a:Act) (w:World),Exit.then (fun a' w'=>kW P ops w' a' ps∧jQ P ops Q r a' w') Q .normal a w→kW P ops w a ps∧kE P ops Q r.flat a w:=
   fun a w h=>⟨h.1,mq hB.2 h.2⟩
  have hx:∀(e:Exit) (a:Act) (w:World),e≠ .normal→Exit.then (fun a' w'=>kW P ops w' a' ps∧jQ P ops Q r a' w') Q e a w→Q e a w:=
   fun e a w hne h=>by cases e<;>first|exact h|exact absurd rfl hne
  split
  ·rename_i hw
   simp only[hw,if_true] at h;refine h.imp (fun h=>?_) (fun h=>⟨h.1,?_⟩)
   ·unfold Oper.wp at*;generalize (execOp a.eval ops[i]).run P w=x at*
    cases x with
    |ok n w'=>
     cases n<;>simp only[Oper.upon] at h ⊢ <;>
      first
       |exact hm _ _ h
       |exact Calls.mono h (fun e w'' he=>by
         cases e
         ·exact hm _ _ he
         ·exact hx _ _ _ (by simp) he
         ·obtain⟨a,w,he⟩:=he;exact⟨a,w,hx _ _ _ (by simp) he⟩)
       |exact Rows.mono h (fun _ _ he=>hm _ _ he)
    |halt x w'=>cases x<;>simp only[Oper.upon] at h ⊢ <;>exact hx _ _ _ (by simp) h
   ·obtain⟨a,w,he⟩:=h.2;exact⟨a,w,hx _ _ _ (by simp) he⟩
  ·rename_i hw
   simp only[hw] at h;exact hm _ _ h
structure jh (P:Program) (ops:Array Oper) (Q:Exit→Act→World→Prop) (T:Array Nat) (lo:List Nat) (listed:Array Bool) (a:Act) (w:World) (pre hs:List Nat) (A:Act) (r:FT):Prop where
 size:listed.size=ops.size
 shut:Shut ops listed
 sub:∀j,listed.getD j false=true→j∈pre
 below:∀j∈pre,j<ops.size
 pbef:∀j∈pre,∀i,i<ops.size→bef T j i=true→i∈pre
 ok:gM T lo ops.size pre hs r=true
 wp:kE P ops Q r A w
 quiet:∀j∈pre,listed.getD j false=false→lo.contains j=false
 pend:∀j∈pre,listed.getD j false=false→∀oj,ops[j]?=some oj→∃v,YieldsAt P ops w oj v A∧A.put oj.dst v=A
 defs:a.defers=A.defers
 mE:a.tmps.size=A.tmps.size
 frame:∀t:Nat,(∀j oj,j∈pre→ops[j]?=some oj→listed.getD j false=false→oj.dst≠some t)→a.tmps[t]?=A.tmps[t]?
section
variable {T:Array Nat} {lo:List Nat} {listed:Array Bool} {a A:Act} {w:World} {pre hs:List Nat} {r:FT}
theorem jh.looks (hT:jM T ops=true) (hD:mM T lo ops=true) (I:jh P ops Q T lo listed a w pre hs A r) {i:Nat} {oi:Oper} (hi:i∈Region.ready .any ops listed) (ho:ops[i]?=some oi):
  ∀t∈oi.looksAt ops,a.tmps[t]?=A.tmps[t]?:=fun t ht=>I.frame t fun j oj hj hoj hun hd=>by
 have h1:=lS hD ho hoj hd ht (I.quiet j hj hun);have h2:=lQ hT I.size I.shut (I.below j hj) hi h1;rw[hun] at h2
 cases h2
theorem jh.take (hT:jM T ops=true) (hD:mM T lo ops=true) (hS:Region.noSelect ops=true) (I:jh P ops Q T lo listed a w pre hs A r) {i:Nat} (hi:i∈Region.ready .any ops listed) (hp:i∈pre)
  {K:Act→World→Prop} (hK:∀a',jh P ops Q T lo (listed.setIfInBounds i true) a' w pre hs A r→K a' w):wpOp P ops Q i K a w:=by
 obtain⟨hun,oi,hoi,hall⟩:=mem_ready.1 hi;obtain⟨v,hy,hv⟩:=I.pend i hp (getD_both hun) oi hoi;obtain⟨he,hw⟩:=rq (Region.noSelect_spec hS i oi · · hoi) (I.looks hT hD hi hoi);have hil:i<listed.size:=(by rw[I.size];exact I.below i hp);refine wpOp_of_stOp (K:=fun a'=>K a' w) (fun _ h=>h) ((hy.of_same he hw).stOp hoi (hK _ ?_));refine⟨by simpa using I.size,qM I.shut hi,fun j hj=>?_,I.below,I.pbef,I.ok,I.wp,fun j hj hu=>I.quiet j hj (gK hil hu).2,fun j hj hu=>I.pend j hj (gK hil hu).2,by rw[put_defers];exact I.defs,by rw[kY];exact I.mE,fun t ht=>?_⟩
 ·rcases nL hj with rfl|h
  ·exact hp
  ·exact I.sub j h
 ·rw[mY];by_cases hd:oi.dst=some t
  ·have:=mY A oi.dst v t;rw[hv] at this;rw[this,I.mE];by_cases hlt:t<A.tmps.size
   ·simp[hd,hlt]
   ·have h1:A.tmps[t]?=none:=Array.getElem?_eq_none (by omega);have h2:a.tmps[t]?=none:=Array.getElem?_eq_none (by rw[I.mE];omega);simp[hlt,h2]
  ·simp only[hd,false_and,if_false];refine I.frame t fun j oj hj hoj hu=>?_;by_cases hji:j=i
   ·subst hji;rw[Option.some.inj (hoj.symm.trans hoi)];exact hd
   ·exact ht j oj hj hoj (by rw[getD_set_ne false (Ne.symm hji)];exact hu)
theorem jh.find {i:Nat}:∀{r:FT} {hs:List Nat},jh P ops Q T lo listed a w pre hs A r→i∈r.heads→∃hs' ps r',jh P ops Q T lo listed a w pre hs' A (.loud i ps r')
 | .done,_,_,h=>by cases h
 | .one _ _,_,_,h=>by cases h
 | .loud k ps r,hs,I,h=>by
  have:i=k:=(by simpa[FT.heads] using h);subst this;exact⟨_,_,_,I⟩
 | .alt x y,hs,I,h=>by
  have hok:=I.ok;simp only[gM,Bool.and_eq_true] at hok;have hwp:=I.wp;simp only[kE] at hwp;rcases List.mem_append.1 h with h|h
  ·exact jh.find {I with ok:=hok.1.2,wp:=hwp.1} h
  ·exact jh.find {I with ok:=hok.2,wp:=hwp.2} h
theorem tN {n:Nat}:∀{r:FT} {hs:List Nat},gM T lo n pre hs r=true→(r.heads≠[])→∀q,q<n→q∈pre∨∃h∈r.heads++hs,q=h∨bef T q h=true
 | .done,_,_,h=>absurd rfl h
 | .one _ _,_,_,h=>absurd rfl h
 | .loud k ps r,hs,h,_=>fun q hq=>by
  simp only[gM,Bool.and_eq_true] at h;have h1:=List.all_eq_true.1 h.1.1.2 q (List.mem_range.2 hq);simp only[Bool.or_eq_true,List.contains_eq_mem,decide_eq_true_eq] at h1;rcases h1 with h1|h1
  ·exact .inl h1
  ·obtain⟨x,hx,hb⟩:=List.any_eq_true.1 h1;simp only[Bool.or_eq_true,beq_iff_eq] at hb;exact .inr ⟨x,by simpa[FT.heads] using hx,hb⟩
 | .alt x y,hs,h,hne=>fun q hq=>by
  simp only[gM,Bool.and_eq_true] at h;rcases tN h.1.2 (by simpa using h.1.1) q hq with h|⟨z,hz,hb⟩
  ·exact .inl h
  ·exact .inr ⟨z,by simp[FT.heads] at hz ⊢;rcases hz with h|h|h<;>simp[h],hb⟩
theorem head_bef {n:Nat} {i:Nat}:∀{r:FT} {hs:List Nat},gM T lo n pre hs r=true→i∈r.heads→i<n∧i∉pre
 | .done,_,_,h=>by cases h
 | .one _ _,_,_,h=>by cases h
 | .loud k ps r,hs,h,hi=>by
  have:i=k:=(by simpa[FT.heads] using hi);subst this;simp only[gM,Bool.and_eq_true,decide_eq_true_eq,Bool.not_eq_true',List.contains_eq_mem,decide_eq_false_iff_not] at h;exact⟨h.1.1.1.1.1,h.1.1.1.1.2⟩
 | .alt x y,hs,h,hi=>by
  simp only[gM,Bool.and_eq_true] at h;rcases List.mem_append.1 hi with hi|hi
  ·exact head_bef h.1.2 hi
  ·exact head_bef h.2 hi
theorem jh.chosen (hT:jM T ops=true) {i:Nat} (hi:i∈Region.ready .any ops listed) (hin:i<ops.size) (I:jh P ops Q T lo listed a w pre [] A r) (hni:i∉pre) (hne:r.heads≠[]):
  ∃pre' hs' A' r',jh P ops Q T lo listed a w pre' hs' A' r'∧((hs'= []∧i∈pre')∨(i∉pre'∧∃ps r'',r'= .loud i ps r'')):=by
 by_cases hh:i∈r.heads
 ·obtain⟨hs',ps,r',I'⟩:=I.find hh;exact⟨_,_,_,_,I',.inr ⟨hni,_,_,rfl⟩⟩
 ·rcases tN I.ok hne i hin with h|⟨z,hz,hb⟩
  ·exact absurd h hni
  ·rw[List.append_nil] at hz;obtain⟨hzn,hzp⟩:=head_bef I.ok hz;rcases hb with rfl|hb
   ·exact absurd hz hh
   ·exact absurd (I.sub z (lQ hT I.size I.shut hzn hi hb)) hzp
theorem jh.advance (hT:jM T ops=true) (hD:mM T lo ops=true) (hS:Region.noSelect ops=true) {i:Nat} (hi:i∈Region.ready .any ops listed) (hin:i<ops.size):
  ∀{r:FT} {pre:List Nat} {A:Act},jh P ops Q T lo listed a w pre [] A r→i∉pre→
   ∃pre' hs' A' r',jh P ops Q T lo listed a w pre' hs' A' r'∧((hs'= []∧i∈pre')∨(i∉pre'∧∃ps r'',r'= .loud i ps r''))
 | .done,pre,A,I,hni=>by
  have hok:=I.ok;simp only[gM,Bool.and_eq_true] at hok;have:=List.all_eq_true.1 hok.2 i (List.mem_range.2 hin);exact absurd (by simpa using this) hni
 | .one k r,pre,A,I,hni=>by
  have hok:=I.ok;simp only[gM,Bool.and_eq_true,decide_eq_true_eq,Bool.not_eq_true',List.contains_eq_mem,decide_eq_false_iff_not] at hok;obtain⟨⟨⟨⟨⟨_,hk⟩,hkp⟩,hkb⟩,hkq⟩,hok'⟩:=hok;have hkq':lo.contains k=false:=(by simpa using hkq);have hko:ops[k]?=some ops[k]:=Array.getElem?_eq_getElem hk;have hwp:=I.wp;simp only[kE] at hwp;obtain⟨v,hy,hK⟩:=yieldsAt_of_stOp hko hwp;have hself:∀d,(ops[k]).dst=some d→d∉(ops[k]).looksAt ops:=fun d hd hm=>by
   have h1:=lS hD hko hko hd hm hkq';have h2:=List.all_eq_true.1 hkb k (List.mem_range.2 hk);simp only[h1,Bool.not_true,Bool.false_or,decide_eq_true_eq] at h2;exact hkp h2
  have hnot:∀j∈pre,∀oj,ops[j]?=some oj→∀d,(ops[k]).dst=some d→d∉oj.looksAt ops:=fun j hj oj hoj d hd hm=>
   hkp (I.pbef j hj k hk (lS hD hoj hko hd hm hkq'))
  have I':jh P ops Q T lo listed a w (k::pre) [] (A.put (ops[k]).dst v) r:=by
   refine⟨I.size,I.shut,fun j hj=>List.mem_cons_of_mem _ (I.sub j hj),fun j hj=>?_,fun j hj m hm hb=>?_,hok',hK,fun j hj hu=>?_,fun j hj hu oj hoj=>?_,by rw[put_defers];exact I.defs,by rw[kY];exact I.mE,fun t ht=>?_⟩
   ·rcases List.mem_cons.1 hj with rfl|h
    ·exact hk
    ·exact I.below j h
   ·rcases List.mem_cons.1 hj with rfl|h
    ·have h2:=List.all_eq_true.1 hkb m (List.mem_range.2 hm);simp only[hb,Bool.not_true,Bool.false_or,decide_eq_true_eq] at h2;exact List.mem_cons_of_mem _ h2
    ·exact List.mem_cons_of_mem _ (I.pbef j h m hm hb)
   ·rcases List.mem_cons.1 hj with rfl|h
    ·exact hkq'
    ·exact I.quiet j h hu
   ·rcases List.mem_cons.1 hj with rfl|h
    ·rw[hko] at hoj;obtain rfl:=Option.some.inj hoj;exact⟨v,hy.of_same (execOp_put _ (Region.noSelect_spec hS j _ · · hko) A _ v hself) (wanted_put _ A _ v hself),put_put _ _ _⟩
    ·obtain⟨v',hy',hv'⟩:=I.pend j h hu oj hoj;refine⟨v',hy'.of_same (execOp_put _ (Region.noSelect_spec hS j _ · · hoj) A _ v (hnot j h oj hoj)) (wanted_put _ A _ v (hnot j h oj hoj)),?_⟩;have hne:j≠k:=fun e=>hkp (e ▸ h);rw[Act.put_comm A v v' (fun d hd=>dst_ne hD hoj hko hne hd),hv']
   ·rw[mY];have h1:=ht k _ (List.mem_cons_self ..) hko (by
     cases hl:listed.getD k false with
     |false=>rfl
     |true=>exact absurd (I.sub k hl) hkp)
    simp only[h1,false_and,if_false];exact I.frame t fun j oj hj hoj hu=>ht j oj (List.mem_cons_of_mem _ hj) hoj hu
  by_cases hki:i=k
  ·subst hki;exact⟨_,_,_,_,I',.inl ⟨rfl,List.mem_cons_self ..⟩⟩
  ·exact jh.advance hT hD hS hi hin I' (by simp[hki,hni])
 | .loud k ps r,pre,A,I,hni=>jh.chosen hT hi hin I hni (by simp[FT.heads])
 | .alt x y,pre,A,I,hni=>jh.chosen hT hi hin I hni (by have hok:=I.ok;simp only[gM,Bool.and_eq_true,Bool.not_eq_true',List.isEmpty_eq_false_iff] at hok;simp[FT.heads,hok.1.1])
theorem jh.loud (hT:jM T ops=true) (hD:mM T lo ops=true) (hS:Region.noSelect ops=true) (hQ:∀c a w,¬Q (.panic c) a w) {i:Nat} {ps:List Nat} (I:jh P ops Q T lo listed a w pre hs A (.loud i ps r)) (hi:i∈Region.ready .any ops listed)
  {K:Act→World→Prop} (hK:∀a' w' A',jh P ops Q T lo (listed.setIfInBounds i true) a' w' (i::pre) [] A' r→K a' w'):wpOp P ops Q i K a w:=by
 obtain⟨hun,oi,hoi,hall⟩:=mem_ready.1 hi;obtain⟨he,hw⟩:=rq (Region.noSelect_spec hS i oi · · hoi) (I.looks hT hD hi hoi);have hok:=I.ok;simp only[gM,Bool.and_eq_true,decide_eq_true_eq,Bool.not_eq_true',List.contains_eq_mem,decide_eq_false_iff_not] at hok;obtain⟨⟨⟨⟨⟨hk,hkp⟩,hkb⟩,hlater⟩,hpre⟩,hok'⟩:=hok;have hil:i<listed.size:=(by rw[I.size];exact hk);have hwp:=I.wp;simp only[kE] at hwp;refine wpOp_sim hoi he hw I.defs hQ hwp fun v ds w' hh=>hK _ _ _ ⟨by simpa using I.size,qM I.shut hi,fun j hj=>?_,fun j hj=>?_,fun j hj m hm hb=>?_,hok',hh.2,fun j hj hu=>?_,fun j hj hu oj hoj=>?_,by rw[put_defers,put_defers],by rw[kY,kY];exact I.mE,fun t ht=>?_⟩
 ·rcases nL hj with rfl|h
  ·exact List.mem_cons_self ..
  ·exact List.mem_cons_of_mem _ (I.sub j h)
 ·rcases List.mem_cons.1 hj with rfl|h
  ·exact hk
  ·exact I.below j h
 ·rcases List.mem_cons.1 hj with rfl|h
  ·have h2:=List.all_eq_true.1 hkb m (List.mem_range.2 hm);simp only[hb,Bool.not_true,Bool.false_or,decide_eq_true_eq] at h2;exact List.mem_cons_of_mem _ h2
  ·exact List.mem_cons_of_mem _ (I.pbef j h m hm hb)
 ·obtain⟨hne,hu'⟩:=gK hil hu;exact I.quiet j ((List.mem_cons.1 hj).resolve_left hne) hu'
 ·obtain⟨hne,hu'⟩:=gK hil hu;have hjp:j∈pre:=(List.mem_cons.1 hj).resolve_left hne;have h1:=List.all_eq_true.1 hpre j hjp;simp only[Bool.or_eq_true,decide_eq_true_eq] at h1;rcases h1 with (h1|h1)|h1
  ·have:=lQ hT I.size I.shut (I.below j hjp) hi h1;rw[hu'] at this
   cases this
  ·exact again_at hh.1 j h1 oj hoj
  ·have:=I.quiet j hjp hu';simp[h1] at this
 ·rw[mY,mY];simp only[I.mE];by_cases hd:oi.dst=some t∧t<A.tmps.size
  ·simp only[hd,and_self,if_true]
  ·simp only[hd,if_false];by_cases hd2:oi.dst=some t
   ·have hlt:¬t<A.tmps.size:=fun h=>hd ⟨hd2,h⟩;rw[Array.getElem?_eq_none (by rw[I.mE];omega),Array.getElem?_eq_none (by omega)]
   ·refine I.frame t fun j oj hj hoj hu=>ht j oj (List.mem_cons_of_mem _ hj) hoj ?_;by_cases hji:j=i
    ·subst hji;exact absurd hj hkp
    ·rw[getD_set_ne false (Ne.symm hji)];exact hu
theorem jh.done (hT:jM T ops=true):∀{r:FT} {hs:List Nat},jh P ops Q T lo listed a w pre hs A r→Region.ready .any ops listed= []→Q .normal a w:=by
 intro r hs I hr;have hall:=tH hT I.size hr;have hin:∀i,i<ops.size→i∈pre:=fun i hi=>I.sub i (hall i hi);have hA:a=A:=act_ext I.defs fun t=>I.frame t fun j oj hj hoj hu=>by
  rw[hall j (I.below j hj)] at hu
  cases hu
 subst hA;have key:∀{r:FT} {hs:List Nat},gM T lo ops.size pre hs r=true→kE P ops Q r a w→Q .normal a w:=by
  intro r;induction r with
  |done=>exact fun _ h=>h
  |one k r ih=>
   intro hs hok _;simp only[gM,Bool.and_eq_true,decide_eq_true_eq,Bool.not_eq_true',List.contains_eq_mem,decide_eq_false_iff_not] at hok;exact absurd (hin k hok.1.1.1.1.2) hok.1.1.1.2
  |loud k ps r ih=>
   intro hs hok _;simp only[gM,Bool.and_eq_true,decide_eq_true_eq,Bool.not_eq_true',List.contains_eq_mem,decide_eq_false_iff_not] at hok;exact absurd (hin k hok.1.1.1.1.1) hok.1.1.1.1.2
  |alt x y ihx ihy=>
   intro hs hok h;simp only[gM,Bool.and_eq_true] at hok;exact ihx hok.1.2 h.1
 exact key I.ok I.wp
theorem jh.any (hT:jM T ops=true) (hD:mM T lo ops=true) (hS:Region.noSelect ops=true) (hQ:∀c a w,¬Q (.panic c) a w):
  ∀(fuel:Nat) {listed:Array Bool} {a A:Act} {w:World} {pre:List Nat} {r:FT},jh P ops Q T lo listed a w pre [] A r→listed.toList.count false=fuel→wpAny P .any ops Q fuel listed a w
 |0,listed,a,A,w,pre,r,I,hf=>by
  have hr:Region.ready .any ops listed= []:=by
   apply List.eq_nil_iff_forall_not_mem.2
   intro i hi;obtain⟨hun,oi,hoi,_⟩:=mem_ready.1 hi;have hil:i<listed.size:=(by rw[I.size];exact(Array.getElem?_eq_some_iff.1 hoi).1);have h1:listed[i]=false:=(by simpa[hil] using hun);have:false∈listed.toList:=(by rw[←h1];simp);exact absurd (List.count_pos_iff.2 this) (by omega)
  exact⟨hr,I.done hT hr⟩
 |fuel+1,listed,a,A,w,pre,r,I,hf=>by
  refine⟨fun hr=>I.done hT hr,fun i hi=>?_⟩;obtain⟨hun,oi,hoi,_⟩:=mem_ready.1 hi;have hin:i<ops.size:=(Array.getElem?_eq_some_iff.1 hoi).1;have hil:i<listed.size:=(by rw[I.size];exact hin);have hf':(listed.setIfInBounds i true).toList.count false=fuel:=by
   have h1:listed.toList[i]'(by simpa using hil)=false:=(by simpa[hil] using hun);rw[Array.toList_setIfInBounds,List.count_set (by simpa using hil),h1];simp at hf ⊢
   omega
  have go:∀{pre hs A r},jh P ops Q T lo listed a w pre hs A r→((hs= []∧i∈pre)∨(i∉pre∧∃ps r'',r= .loud i ps r''))→wpOp P ops Q i (wpAny P .any ops Q fuel (listed.setIfInBounds i true)) a w:=by
   intro pre hs A r I h;rcases h with⟨rfl,h⟩|⟨_,ps,r'',rfl⟩
   ·exact I.take hT hD hS hi h fun a' I'=>jh.any hT hD hS hQ fuel I' hf'
   ·exact I.loud hT hD hS hQ hi fun a' w' A' I'=>jh.any hT hD hS hQ fuel I' hf'
  by_cases hp:i∈pre
  ·exact go I (.inl ⟨rfl,hp⟩)
  ·obtain⟨pre',hs',A',r',I',h⟩:=jh.advance hT hD hS hi hin I hp;exact go I' h
end
theorem cZ {id:Nat} {a:Act} {w:World} {l:List Oper} (c:Tr) (R:Act→Act→World→Prop) (hm:P.follows .mixedOrders=true) (hB:regionOkT l.toArray c=true)
  (h:jQ P l.toArray (fun e a' w'=>e= .normal∧R a a' w') c a w.drew) (hR:∀a' w',R a a' w'→Q .normal a' w'):(Code.region id l.toArray true).wp P Q a w:=by
 simp only[regionOkT,Bool.and_eq_true] at hB;obtain⟨⟨⟨⟨hS,hT⟩,hD⟩,hP⟩,hR'⟩:=hB;refine Code.wp_mono (Q:=fun e a' w'=>e= .normal∧R a a' w') (fun e a' w' h=>by obtain⟨rfl,h⟩:=h;exact hR a' w' h) (wp_region_any hm ?_);refine jh.any (T:=Region.before l.toArray) (lo:=c.flat.louds) (A:=a) (pre:=[]) (r:=c.flat) hT hD hS (fun _ _ _ h=>by cases h.1) _ ⟨by simp,fun j oj _ hl=>(by rw[getD_replicate_false] at hl;cases hl),fun j hl=>(by rw[getD_replicate_false] at hl;cases hl),fun j h=>(by cases h),fun j h=>(by cases h),hP,mq hR' h,fun j h=>(by cases h),fun j h=>(by cases h),rfl,rfl,fun t _=>rfl⟩ ?_;simp
theorem tr_still {l:List Nat} {r:Tr} {a:Act} {w:World} (h:wpStill P ops w (fun a'=>jQ P ops Q r a' w) (pick ops l) a):jQ P ops Q (.still l r) a w:=h
theorem tr_loud {i:Nat} {ps:List Nat} {r:Tr} {a:Act} {w:World} (h:wpList P ops (Exit.then (fun a' w'=>kW P ops w' a' ps∧jQ P ops Q r a' w') Q) (pick ops [i]) a w):jQ P ops Q (.loud i ps r) a w:=h
theorem bO {x y:Tr} {a:Act} {w:World} (h:jQ P ops Q x a w) (h':jQ P ops Q y a w):jQ P ops Q (.alt x y) a w:=⟨h,h'⟩
theorem dR {R:Act→World→Prop} {a:Act} {w:World} (h:R a w):jQ P ops (fun e a w=>e= .normal∧R a w) .done a w:=⟨rfl,h⟩
theorem tl_ {i:Nat} {ps:List Nat} {r:Tr} {a:Act} {w:World} {o:List Oper} (h:wpList P ops (Exit.then (fun a' w'=>kW P ops w' a' ps∧jQ P ops Q r a' w') Q) o a w) (e:pick ops [i]=o:=by(try simp only[pick,List.getElem?_toArray,List.getElem?_cons_succ,List.getElem?_cons_zero]);rfl):jQ P ops Q (.loud i ps r) a w:=tr_loud (e ▸ h)
theorem ts_ {l:List Nat} {r:Tr} {a:Act} {w:World} {o:List Oper} (h:wpStill P ops w (fun a'=>jQ P ops Q r a' w) o a) (e:pick ops l=o:=by(try simp only[pick,List.getElem?_toArray,List.getElem?_cons_succ,List.getElem?_cons_zero]);rfl):jQ P ops Q (.still l r) a w:=tr_still (e ▸ h)
def toTr:List Seg→Tr
 | []=> .done
 | .still l::r=> .still l (toTr r)
 | .loud i ps::r=> .loud i ps (toTr r)
def iD (P:Program) (ops:Array Oper) (Q:Exit→Act→World→Prop) (c:List Seg) (a:Act) (w:World):Prop:=jQ P ops Q (toTr c) a w
theorem av {id:Nat} {a:Act} {w:World} {l:List Oper} (c:List Seg) (hm:P.follows .mixedOrders=true) (hB:regionOkT l.toArray (toTr c)=true)
  (h:iD P l.toArray (NoPanic Q) c a w.drew):(Code.region id l.toArray true).wp P Q a w:=by
 simp only[regionOkT,Bool.and_eq_true] at hB;obtain⟨⟨⟨⟨hS,hT⟩,hD⟩,hP⟩,hR'⟩:=hB;refine wp_region_noPanic (wp_region_any hm ?_);refine jh.any (T:=Region.before l.toArray) (lo:=(toTr c).flat.louds) (A:=a) (pre:=[]) (r:=(toTr c).flat) hT hD hS (fun _ _ _ h=>h) _ ⟨by simp,fun j oj _ hl=>(by rw[getD_replicate_false] at hl;cases hl),fun j hl=>(by rw[getD_replicate_false] at hl;cases hl),fun j h=>(by cases h),fun j h=>(by cases h),hP,mq hR' h,fun j h=>(by cases h),fun j h=>(by cases h),rfl,rfl,fun t _=>rfl⟩ ?_;simp
theorem plan_still {l:List Nat} {r:List Seg} {a:Act} {w:World} (h:wpStill P ops w (fun a'=>iD P ops Q r a' w) (pick ops l) a):iD P ops Q (.still l::r) a w:=h
theorem plan_loud {i:Nat} {ps:List Nat} {r:List Seg} {a:Act} {w:World} (h:wpList P ops (Exit.then (fun a' w'=>kW P ops w' a' ps∧iD P ops Q r a' w') Q) (pick ops [i]) a w):iD P ops Q (.loud i ps::r) a w:=h
theorem pl_ {i:Nat} {ps:List Nat} {r:List Seg} {a:Act} {w:World} {o:List Oper} (h:wpList P ops (Exit.then (fun a' w'=>kW P ops w' a' ps∧iD P ops Q r a' w') Q) o a w) (e:pick ops [i]=o:=by(try simp only[pick,List.getElem?_toArray,List.getElem?_cons_succ,List.getElem?_cons_zero]);rfl):iD P ops Q (.loud i ps::r) a w:=plan_loud (e ▸ h)
theorem ps_ {l:List Nat} {r:List Seg} {a:Act} {w:World} {o:List Oper} (h:wpStill P ops w (fun a'=>iD P ops Q r a' w) o a) (e:pick ops l=o:=by(try simp only[pick,List.getElem?_toArray,List.getElem?_cons_succ,List.getElem?_cons_zero]);rfl):iD P ops Q (.still l::r) a w:=plan_still (e ▸ h)
theorem ag_ {A B:Prop} (b:B) (a:A:=by simp only[kW,pick,List.getElem?_toArray,List.getElem?_cons_succ,List.getElem?_cons_zero];(repeat (first|exact trivial|(refine And.intro ?_ ?_;focus (still_step;exact wpStill_nil rfl))))):A∧B:=⟨a,b⟩
theorem aF {a:Act} {w:World} (h:Q .normal a w):iD P ops Q [] a w:=h
theorem zI {a:Act} {w:World} (h:Q .normal a w):iD P ops (NoPanic Q) [] a w:=h
theorem zH {Q:Act→Prop} {a:Act} {w:World} (h:Q a):wpStill P ops w Q [] a:=h
theorem zJ {fn:Func} {R:Ending→World→Prop} {a:Act} {w:World} {t:Tmp} (hR:R (.returned (a.tmps.getD t undef)) w) (h:fn.results= #[.tmp t]:=by rfl) (hd:a.defers= []:=by rfl):bodyPost P fn R .ret a w:=bodyPost_ret (results_tmp h _ _ _) hd hR
end
end
end Go.Proofs.YtdmocjnjbihloaaDoor
