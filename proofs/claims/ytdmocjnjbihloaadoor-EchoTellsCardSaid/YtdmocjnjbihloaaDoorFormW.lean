/- The form of what values lead to, in plain Lean: it is the same for heaps that are the same but for places. No condition; no run. A map of the call's own whose keys are known: what is there is told by a list, what it holds by a function. No condition. The walk of treadwheelkeep.Form's own closure: a value is told. Condition: where its variables lie. What treadwheelkeep.Form tells, step by step, is the form: plain Lean. No condition; no run. The walk of the document's copy of a list of values: a new row that holds the same. No condition beside what is read. The walk of the document's copy of a heap: the same heap, each object's fields in a row of their own. No condition beside what is read. The walk of the document's answer to heap.Alloc. No condition beside what is read. The walk of treadwheelkeep.Form. Condition: the heap, with the values, may be; they are few. -/
import Derived.Test.YtdmocjnjbihloaaDoorSpecE
import Derived.Test.YtdmocjnjbihloaaDoorAlloc
import Derived.Test.YtdmocjnjbihloaaDoorReach
import Derived.Test.YtdmocjnjbihloaaDoorActCopy
import Derived.Test.YtdmocjnjbihloaaDoorSt
import Derived.Maps.OwnSet
import Derived.Test.YtdmocjnjbihloaaDoorConcatV
import Derived.Test.YtdmocjnjbihloaaDoorSortI
import Derived.Test.YtdmocjnjbihloaaDoorCloneH
import Derived.Test.YtdmocjnjbihloaaDoorRegion
namespace Go.Proofs.YtdmocjnjbihloaaDoor
section
def encV (r:List Int) (v:V):List Int:=if v.k=2 then [2,(r.idxOf v.n:Int)] else [v.k,v.n]
def encL (r:List Int) (l:List V):List Int:=(l.map (encV r)).flatten
def objF (os:List Ob) (r:List Int) (n:Int):List Int:= -1::((fieldsOf os n).length:Int)::encL r (fieldsOf os n)
def formR (os:List Ob) (roots:List V) (r:List Int):List Int:=encL r roots++(r.map (objF os r)).flatten
noncomputable def lu (os:List Ob) (roots:List V):List Int:=formR os roots (ay os roots)
theorem idx_map {f:Int→Int}:∀{l:List Int} {x:Int},(∀a∈l,∀b∈l,f a=f b→a=b)→x∈l→(l.map f).idxOf (f x)=l.idxOf x
 | [],_,_,h=>by cases h
 |a::l,x,hi,h=>by
  rw[List.map_cons,List.idxOf_cons,List.idxOf_cons];by_cases hax:a=x
  ·subst hax;simp
  ·have hne:f a≠f x:=fun e=>hax (hi a (by simp) x h e);have h':x∈l:=(List.mem_cons.1 h).resolve_left (Ne.symm hax);rw[show(f a==f x)=false by simpa using hne,show(a==x)=false by simpa using hax];simp only[cond_false];rw[idx_map (fun a ha b hb=>hi a (by simp[ha]) b (by simp[hb])) h']
theorem newV_k {f:Int→Int} (v:V):(aI f v).k=v.k:=by
 unfold aI;split
 ·rename_i h;exact h.symm
 ·rfl
theorem fJ {f:Int→Int} {v:V} (h:v.k=2):aI f v=⟨2,f v.n⟩:=if_pos h
theorem lG {f:Int→Int} {v:V} (h:v.k≠2):aI f v=v:=if_neg h
theorem Led.iso {os os':List Ob} {f:Int→Int} {S:Int→Prop} (hi:∀a b,S a→S b→f a=f b→a=b) (hf:∀x,S x→fieldsOf os' (f x)=(fieldsOf os x).map (aI f)) (hS:∀x,S x→∀v∈fieldsOf os x,v.k=2→S v.n):
  ∀{q:List V} {out r:List Int},Led os q out r→(∀v∈q,v.k=2→S v.n)→(∀x∈out,S x)→Led os' (q.map (aI f)) (out.map f) (r.map f):=by
 intro q out r h;induction h with
 |done out=>exact fun _ _=> .done _
 | @new v q out r hv _ ih=>
  intro hq ho;simp[fresh] at hv
  have hs:=hq v (by simp) hv.1;have hn:f v.n∉out.map f:=fun hm=>by
   obtain⟨x,hx,e⟩:=List.mem_map.1 hm;exact hv.2 (hi x v.n (ho x hx) hs e ▸ hx)
  rw[List.map_cons,fJ hv.1];refine .new (v:=⟨2,f v.n⟩) (by simp[fresh];simpa using hn) ?_;have:=ih (fun x hx hk=>by
   rcases List.mem_append.1 hx with hx|hx
   ·exact hq x (by simp[hx]) hk
   ·exact hS v.n hs x hx hk) (fun x hx=>by
   rcases List.mem_append.1 hx with hx|hx
   ·exact ho x hx
   ·simp at hx;subst hx;exact hs)
  simpa[hf v.n hs] using this
 | @old v q out r hv _ ih=>
  intro hq ho;have hv':fresh (out.map f) (aI f v)=false:=by
   by_cases hk:v.k=2
   ·have hm:v.n∈out:=(by simpa[fresh,hk] using hv);rw[fJ hk];simp only[fresh,Bool.and_eq_false_iff];exact .inr (by simpa using ⟨v.n,hm,rfl⟩)
   ·rw[lG hk];simp[fresh,hk]
  rw[List.map_cons];exact .old hv' (ih (fun x hx=>hq x (by simp[hx])) ho)
theorem encV_iso {f:Int→Int} {r:List Int} (hi:∀a∈r,∀b∈r,f a=f b→a=b) {v:V} (h:v.k=2→v.n∈r):encV (r.map f) (aI f v)=encV r v:=by
 unfold encV;rw[newV_k];by_cases hk:v.k=2
 ·rw[if_pos hk,if_pos hk,fJ hk];show [2,(((r.map f).idxOf (f v.n):Nat):Int)]=_
  rw[idx_map hi (h hk)]
 ·rw[if_neg hk,if_neg hk,lG hk]
theorem encL_iso {f:Int→Int} {r:List Int} (hi:∀a∈r,∀b∈r,f a=f b→a=b) {l:List V} (h:∀v∈l,v.k=2→v.n∈r):encL (r.map f) (l.map (aI f))=encL r l:=by
 unfold encL;rw[List.map_map];congr 1
 exact List.map_congr_left (fun v hv=>encV_iso hi (h v hv))
theorem q9 {os os':List Ob} {f:Int→Int} {roots:List V} {r:List Int} (h:Led os roots [] r) (hi:∀a∈r,∀b∈r,f a=f b→a=b) (hf:∀x∈r,fieldsOf os' (f x)=(fieldsOf os x).map (aI f)):
  ay os' (roots.map (aI f))=r.map f∧lu os' (roots.map (aI f))=lu os roots:=by
 have h1:Led os' (roots.map (aI f)) ([].map f) (r.map f):=h.iso (S:=fun x=>x∈r) (fun a b ha hb=>hi a ha b hb) hf (fun x hx v hv hk=>h.shut x hx v hv hk) (fun v hv hk=>h.roots v hv hk) (fun x hx=>by cases hx);have h2:=dM h1;refine⟨h2,?_⟩;unfold lu;rw[h2,dM h];unfold formR;rw[encL_iso hi h.roots,List.map_map];congr 2
 refine List.map_congr_left (fun x hx=>?_);show objF os' (r.map f) (f x)=objF os r x
 unfold objF;rw[hf x hx,encL_iso hi (h.shut x hx),List.length_map]
end
section
open Go.RowKit Go.Maps
def MapW (P:Program) (kt e:TypeId) (z:Value) (w:World) (b:Nat) (l:List Int) (f:Int→Value):Prop:=
 ∃D:DataW Unit,w.ownsMap P kt (plainElem P e) b l.length D∧IsMap D∧∃zd,plainElem P e z=some (zd,[])∧
  ∀k:Int,(Lit.int .i64 k).wf=true→Maps.has D (.int .i64 k)=decide (k∈l)∧∃d,plainElem P e (f k)=some (d,[])∧D.atKey (.int .i64 k) zd=d
section
variable {P:Program} {kt e t:TypeId} {z:Value} {w w':World} {b:Nat} {l:List Int} {f:Int→Value}
theorem MapW.made {zd:DataW Unit} (he:plainElem (H:=Unit) P e z=some (zd,[])):MapW P kt e z (w.alloc (.map #[] 0)) w.heap.size [] (fun _=>z):=
 ⟨_,World.ownsMap_made _ _ _ _,⟨[],rfl⟩,zd,he,fun _ _=>⟨by simp[has_eq],zd,he,rfl⟩⟩
theorem MapW.lt (h:MapW P kt e z w b l f):b<w.heap.size:=let ⟨_,h,_⟩:=h;h.lt
theorem MapW.keep (h:MapW P kt e z w b l f) (hb:w'.heap[b]?=w.heap[b]?):MapW P kt e z w' b l f:=by
 obtain⟨D,⟨es,clock,hh,r1⟩,r⟩:=h;exact⟨D,⟨es,clock,hb.trans hh,r1⟩,r⟩
theorem MapW.look (h:MapW P kt e z w b l f) (he:P.underlying e=some .bool∨∃q,P.underlying e=some (.int q)) (hk:P.underlying kt=some (.int .i64)) (ht:P.underlying t=some (.map kt e))
  (hz:(zeroValue e).run P w= .ok z w) {k:Int} (hw:(Lit.int .i64 k).wf=true):(Instr.lookup t (.map (some b)) (.int .i64 k) true).run P w= .ok (.tuple #[f k,.bool (decide (k∈l))]) w:=by
 obtain⟨D,h1,h2,zd,h3,h4⟩:=h;obtain⟨v,ps,hrun,hv⟩:=h1.look_ok (int_keyed hk) ht hz h3 (keyOf_int_mk hk hw);obtain⟨hh,d,hd,hat⟩:=h4 k hw;rw[hat] at hv;rw[plain_inj he hd hv,←hh];exact hrun
theorem MapW.update (h:MapW P kt e z w b l f) (hk:P.underlying kt=some (.int .i64)) (ht:P.underlying t=some (.map kt e)) (hn:l.length<maxLen) {k:Int} (hw:(Lit.int .i64 k).wf=true) {v:Value} {d:DataW Unit} (hv:plainElem P e v=some (d,[])):
  ∃w',(Instr.mapUpdate t (.map (some b)) (.int .i64 k) v).run P w= .ok () w'∧MapW P kt e z w' b (l++[k]) (fun i=>if i=k then v else f i)∧w.grownBy w' (some b):=by
 obtain⟨D,h1,h2,zd,h3,h4⟩:=h;obtain⟨w',hrun,ho,hg⟩:=h1.update (int_keyed hk) ht hn (keyOf_int_mk hk hw) hv;refine⟨w',hrun,⟨_,by simpa using ho,?_,zd,h3,fun i hi=>?_⟩,hg⟩
 ·obtain⟨es,rfl⟩:=h2;exact⟨_,rfl⟩
 ·by_cases hik:i=k
  ·subst hik;refine⟨?_,d,by simpa using hv,atKey_put_same (k:= .int .i64 i) h2 trivial _ _⟩;rw[has_put_same (k:= .int .i64 i) h2 trivial];simp
  ·obtain⟨hh,d',hd',hat⟩:=h4 i hi;refine⟨?_,d',by simpa[hik] using hd',?_⟩
   ·rw[has_put_other (fun e=>hik (by injection e)),hh];simp[hik]
   ·rw[atKey_put_other (fun e=>hik (by injection e))];exact hat
end
theorem su {P:Program} (w:World) {ops:Array Oper} {rest:List Oper} {o:Oper} {a:Act} {Q:Exit→Act→World→Prop}
  (hg:o.guard=none) (m x v:Operand) (t:TypeId) (hop:o.op=Op.mapUpdate t m x v) (kt e:TypeId) (z:Value) (b:Nat) (l:List Int) (f:Int→Value) (hk:P.underlying kt=some (.int .i64)) (ht:P.underlying t=some (.map kt e))
  (hm:a.eval m= .map (some b)) (hown:MapW P kt e z w b l f) (hn:l.length<maxLen) (k:Int) (val:Value) (hx:a.eval x= .int .i64 k) (hv:a.eval v=val) (hw:(Lit.int .i64 k).wf=true) (d:DataW Unit) (hval:plainElem P e val=some (d,[]))
  (hK:∀w',MapW P kt e z w' b (l++[k]) (fun i=>if i=k then val else f i)→w.grownBy w' (some b)→wpList P ops Q rest (a.put o.dst undef) w'):wpList P ops Q (o::rest) a w:=by
 refine wpList_plain hg fun K' hK'=>?_;obtain⟨w',hrun,r1,r2⟩:=hown.update hk ht hn hw hval;unfold Oper.wp;simp[execOp,hop,hm,hx,hv,hrun,Result.andThen]
 exact hK' _ _ (hK w' r1 r2)
def dI (P:Program) (kt e:TypeId) (z:Value) (b:Nat) (l:List Int) (f:Int→Value):Res:= .any (fun k=>k=b) (fun w=>MapW P kt e z w b l f) (fun _ _ hk h=>h.keep (hk b rfl))
section
variable {B:Nat} {w0 w w':World} {R:List Res}
theorem St.mapw (h:St B w0 w R) (i:Nat) {P:Program} {kt e:TypeId} {z:Value} {b:Nat} {l:List Int} {f:Int→Value} (hi:R[i]?=some (dI P kt e z b l f)):MapW P kt e z w b l f:=h.at_ i hi
theorem St.mapwPut (h:St B w0 w R) (i:Nat) {P:Program} {kt e:TypeId} {z:Value} {b:Nat} {l:List Int} {f:Int→Value} (hi:R[i]?=some (dI P kt e z b l f)) {l':List Int} {g:Int→Value} (hg:w.grownBy w' (some b)) (ho:MapW P kt e z w' b l' g):
  St B w0 w' (R.set i (dI P kt e z b l' g))∧au w R w' (R.set i (dI P kt e z b l' g)):=
 h.grown i hi (dI P kt e z b l' g) hg (fun _ hb=>by injection hb with hb;exact hb.symm) ho (fun _ hb=> .inl hb)
end
end
section
open Go.RowKit Go.Maps
theorem o8 (l:List Int) (x:Int):ics l++[[.int .i64 x]]=ics (l++[x]):=by simp[ics]
def kV (ord:List Int) (v:V):List Int:=if v.k=2∧v.n∉ord then ord++[v.n] else ord
def mX (out ord:List Int) (v:V):List Int:=if v.k=2 then out++[2,plM 0 (kV ord v) v.n] else out++[v.k,v.n]
set_option maxRecDepth 100000 in
set_option maxHeartbeats 4000000 in
theorem say_any (B:Nat) (w0 w:World) (R0:List Res) (bo bp bq mb:Nat) (Ao Aq:Option Addr) (co cq:Nat) (out ord:List Int) (v:V) (hv:v.k=2→0≤v.n∧v.n<60) (_ho:out.length≤100000) (_hq:ord.length≤60) (h:St B w0 w (.blk bo #[.slice Ao out.length co] 40:: .row B 3 1 (.slice Ao out.length co) out.length (cat (ics out)):: .blk bp #[.map (some mb)] 45::dI Tryd.prog 3 3 (.int .i64 0) mb ord (fun x=> .int .i64 (plM 0 ord x)):: .blk bq #[.slice Aq ord.length cq] 40:: .row B 3 1 (.slice Aq ord.length cq) ord.length (cat (ics ord))::R0)):
  Calls Tryd.prog 91 #[.agg #[.int .i64 v.k,.int .i64 v.n],.pointer (some ⟨bo,0,none⟩),.pointer (some ⟨bp,0,none⟩),.pointer (some ⟨bq,0,none⟩)] w fun e w'=>e= .returned (.tuple #[])∧∃Ao' co' Aq' cq',St B w0 w' (.blk bo #[.slice Ao' (mX out ord v).length co'] 40:: .row B 3 1 (.slice Ao' (mX out ord v).length co') ((mX out ord v).length) (cat (ics (mX out ord v))):: .blk bp #[.map (some mb)] 45::dI Tryd.prog 3 3 (.int .i64 0) mb (kV ord v) (fun x=> .int .i64 (plM 0 (kV ord v) x)):: .blk bq #[.slice Aq' (kV ord v).length cq'] 40:: .row B 3 1 (.slice Aq' (kV ord v).length cq') ((kV ord v).length) (cat (ics (kV ord v)))::R0)∧au w (.blk bo #[.slice Ao out.length co] 40:: .row B 3 1 (.slice Ao out.length co) out.length (cat (ics out)):: .blk bp #[.map (some mb)] 45::dI Tryd.prog 3 3 (.int .i64 0) mb ord (fun x=> .int .i64 (plM 0 ord x)):: .blk bq #[.slice Aq ord.length cq] 40:: .row B 3 1 (.slice Aq ord.length cq) ord.length (cat (ics ord))::R0) w' (.blk bo #[.slice Ao' (mX out ord v).length co'] 40:: .row B 3 1 (.slice Ao' (mX out ord v).length co') ((mX out ord v).length) (cat (ics (mX out ord v))):: .blk bp #[.map (some mb)] 45::dI Tryd.prog 3 3 (.int .i64 0) mb (kV ord v) (fun x=> .int .i64 (plM 0 (kV ord v) x)):: .blk bq #[.slice Aq' (kV ord v).length cq'] 40:: .row B 3 1 (.slice Aq' (kV ord v).length cq') ((kV ord v).length) (cat (ics (kV ord v)))::R0)∧w.heap.size≤w'.heap.size:=by
 have HT:=zG h;have hz:w.heap.size≤w.heap.size:=Nat.le_refl _;have HK:Hid (au w (.blk bo #[.slice Ao out.length co] 40:: .row B 3 1 (.slice Ao out.length co) out.length (cat (ics out)):: .blk bp #[.map (some mb)] 45::dI Tryd.prog 3 3 (.int .i64 0) mb ord (fun x=> .int .i64 (plM 0 ord x)):: .blk bq #[.slice Aq ord.length cq] 40:: .row B 3 1 (.slice Aq ord.length cq) ord.length (cat (ics ord))::R0) w (.blk bo #[.slice Ao out.length co] 40:: .row B 3 1 (.slice Ao out.length co) out.length (cat (ics out)):: .blk bp #[.map (some mb)] 45::dI Tryd.prog 3 3 (.int .i64 0) mb ord (fun x=> .int .i64 (plM 0 ord x)):: .blk bq #[.slice Aq ord.length cq] 40:: .row B 3 1 (.slice Aq ord.length cq) ord.length (cat (ics ord))::R0)):=zG au.refl;clear h;replace⟨HT,HK⟩:=sp1 (HT.new' #[.int .i64 v.k,.int .i64 v.n] 47 w.heap.size) (HK.t hz);replace hz:=HT.zz hz;go_enter Tryd.func91,Tryd.ntmps91
 go_upto_region 1 with fail;generalize (w.alloc (.cells #[.int .i64 v.k,.int .i64 v.n] 47))=W1 at*;have h_:=HT.rz 4;go_wp2_with (at_builtin;go_loud (refine aM rfl (.tmp 7) (.tmp 10) _ rfl (e:=3) (size:=1) (bytes:=8) Tryd.underlying40 infoI rfl (by omega) HT.out 2 rfl rfl [.int .i64 v.k] 3 rfl rfl (by simp[Value.oneCell']) (by unfold maxLen;omega) (by omega) HT.base ?next))
 case next=>
  intro A2 c3 W4 T' K' hs3;try rw[o8] at T' K'
  clear h_;replace T':St B w0 W4 (.blk w.heap.size #[.int .i64 v.k,.int .i64 v.n] 47:: .blk bo #[.slice Ao out.length co] 40:: .row B 3 1 (.slice A2 (out.length+1) c3) (out.length+1) (cat (ics (out++[v.k]))):: .blk bp #[.map (some mb)] 45::dI Tryd.prog 3 3 (.int .i64 0) mb ord (fun x=> .int .i64 (plM 0 ord x)):: .blk bq #[.slice Aq ord.length cq] 40:: .row B 3 1 (.slice Aq ord.length cq) ord.length (cat (ics ord))::R0):=T';replace K':au W1 (.blk w.heap.size #[.int .i64 v.k,.int .i64 v.n] 47:: .blk bo #[.slice Ao out.length co] 40:: .row B 3 1 (.slice Ao out.length co) out.length (cat (ics out)):: .blk bp #[.map (some mb)] 45::dI Tryd.prog 3 3 (.int .i64 0) mb ord (fun x=> .int .i64 (plM 0 ord x)):: .blk bq #[.slice Aq ord.length cq] 40:: .row B 3 1 (.slice Aq ord.length cq) ord.length (cat (ics ord))::R0) W4 (.blk w.heap.size #[.int .i64 v.k,.int .i64 v.n] 47:: .blk bo #[.slice Ao out.length co] 40:: .row B 3 1 (.slice A2 (out.length+1) c3) (out.length+1) (cat (ics (out++[v.k]))):: .blk bp #[.map (some mb)] 45::dI Tryd.prog 3 3 (.int .i64 0) mb ord (fun x=> .int .i64 (plM 0 ord x)):: .blk bq #[.slice Aq ord.length cq] 40:: .row B 3 1 (.slice Aq ord.length cq) ord.length (cat (ics ord))::R0):=K';replace HT:=zG T';replace HK:=zG (HK.trans (by omega) K');replace hz:w.heap.size≤W4.heap.size:=(by omega);clear T' K';have h_:=HT.rz 4;go_upto_region 2 with fail;clear h_;obtain⟨T',K'⟩:=HT.put 1 0 (.slice A2 (out.length+1) c3) rfl;simp only[zC,zB,zA] at T' K';replace⟨HT,HK⟩:=sp1 (And.intro T' K') (HK.t hz);clear T' K';replace hz:=HT.zz hz;generalize W4.setCell ⟨bo,0,none⟩ (.slice A2 (out.length+1) c3)=W5 at*;have h_:=HT.rz 4;by_cases hk:v.k=2
  ·have e2:(v.k==2)=true:=(by simpa using hk);obtain⟨hv0,hv1⟩:=hv hk;have hwf:=wf60 (i:=v.n) (by omega);have HK2:=zG hk;clear hk hv;by_cases hm:v.n∈ord
   ·have hlk:=(HT.mapw 4 rfl).look (.inr ⟨_,Tryd.underlying3⟩) Tryd.underlying3 Tryd.underlying45 (zeroI _) hwf;rw[show decide (v.n∈ord)=true by simp[hm]] at hlk;go_upto_region 8 with fail;clear hlk;go_wp2_with (at_builtin;go_loud (refine aM rfl (.tmp 35) (.tmp 37) _ rfl (e:=3) (size:=1) (bytes:=8) Tryd.underlying40 infoI rfl (by omega) HT.out 2 rfl rfl [.int .i64 (plM 0 ord v.n)] 3 rfl rfl (by simp[Value.oneCell']) (by unfold maxLen;omega) (by omega) HT.base ?next))
    case next=>
     intro A6 c7 W8 T' K' hs3;try rw[o8] at T' K'
     clear h_;replace T':St B w0 W8 (.blk w.heap.size #[.int .i64 v.k,.int .i64 v.n] 47:: .blk bo #[.slice A2 (out.length+1) c3] 40:: .row B 3 1 (.slice A6 ((out.length+1)+1) c7) ((out.length+1)+1) (cat (ics (out++[v.k]++[plM 0 ord v.n]))):: .blk bp #[.map (some mb)] 45::dI Tryd.prog 3 3 (.int .i64 0) mb ord (fun x=> .int .i64 (plM 0 ord x)):: .blk bq #[.slice Aq ord.length cq] 40:: .row B 3 1 (.slice Aq ord.length cq) ord.length (cat (ics ord))::R0):=T';replace K':au W5 (.blk w.heap.size #[.int .i64 v.k,.int .i64 v.n] 47:: .blk bo #[.slice A2 (out.length+1) c3] 40:: .row B 3 1 (.slice A2 (out.length+1) c3) (out.length+1) (cat (ics (out++[v.k]))):: .blk bp #[.map (some mb)] 45::dI Tryd.prog 3 3 (.int .i64 0) mb ord (fun x=> .int .i64 (plM 0 ord x)):: .blk bq #[.slice Aq ord.length cq] 40:: .row B 3 1 (.slice Aq ord.length cq) ord.length (cat (ics ord))::R0) W8 (.blk w.heap.size #[.int .i64 v.k,.int .i64 v.n] 47:: .blk bo #[.slice A2 (out.length+1) c3] 40:: .row B 3 1 (.slice A6 ((out.length+1)+1) c7) ((out.length+1)+1) (cat (ics (out++[v.k]++[plM 0 ord v.n]))):: .blk bp #[.map (some mb)] 45::dI Tryd.prog 3 3 (.int .i64 0) mb ord (fun x=> .int .i64 (plM 0 ord x)):: .blk bq #[.slice Aq ord.length cq] 40:: .row B 3 1 (.slice Aq ord.length cq) ord.length (cat (ics ord))::R0):=K';replace HT:=zG T';replace HK:=zG (HK.trans (by omega) K');replace hz:w.heap.size≤W8.heap.size:=(by omega);clear T' K';have h_:=HT.rz 4;go_wp2_with fail;clear h_;obtain⟨T',K'⟩:=HT.put 1 0 (.slice A6 ((out.length+1)+1) c7) rfl;simp only[zC,zB,zA] at T' K';replace⟨HT,HK⟩:=sp1 (And.intro T' K') (HK.t hz);clear T' K';replace hz:=HT.zz hz;generalize W8.setCell ⟨bo,0,none⟩ (.slice A6 ((out.length+1)+1) c7)=W9 at*;have h_:=HT.rz 4;clear h_;replace⟨HT,HK⟩:=sp1 (nd0 (HT.drop 0)) (HK.t hz);try simp only[Exit.inBlock,Exit.then]
     first|go_end0|refine bodyPost_ret (results_none rfl _ _ _) rfl ?_
     refine⟨rfl,A6,c7,Aq,cq,?_⟩;have e1:kV ord v=ord:=if_neg (fun h=>h.2 hm);have e3:mX out ord v=out++[v.k]++[plM 0 ord v.n]:=(by unfold mX;rw[if_pos HK2.out,e1,HK2.out];simp);rw[e1,e3,show(out++[v.k]++[plM 0 ord v.n]).length=out.length+1+1 by simp];exact⟨HT.out,HK.out,hz⟩
   ·have hlk:=(HT.mapw 4 rfl).look (.inr ⟨_,Tryd.underlying3⟩) Tryd.underlying3 Tryd.underlying45 (zeroI _) hwf;rw[show decide (v.n∈ord)=false by simp[hm]] at hlk;go_upto_region 6 with fail;clear hlk;have hmp:=zG (HT.mapw 4 rfl);have hwn:(Lit.int .i64 ((0+ord.length:Nat):Int)).wf=true:=WalkArith.wf_i64 (by omega);go_wp2_with (at_mapUpdate;go_loud (refine su _ rfl _ _ _ 45 rfl 3 3 (.int .i64 0) mb ord _ Tryd.underlying3 Tryd.underlying45 rfl hmp.out (by unfold maxLen;omega) v.n (.int .i64 (ord.length:Int)) rfl rfl hwf _ (plainElem_int Tryd.underlying3 (by simpa using hwn)) ?next))
    case next=>
     intro w2 hm2 hg2;clear h_;have hm3:MapW Tryd.prog 3 3 (.int .i64 0) w2 mb (ord++[v.n]) (fun y=> .int .i64 (plM 0 (ord++[v.n]) y)):=by
      have e:(fun y=>Value.int .i64 (plM 0 (ord++[v.n]) y))=(fun i=>if i=v.n then Value.int .i64 (ord.length:Int) else Value.int .i64 (plM 0 ord i)):=by
       funext i
       rw[plM_snoc hm];split<;>simp
      rw[e];exact hm2
     replace⟨HT,HK⟩:=sp1 (ns4 (HT.mapwPut 4 rfl hg2 hm3)) (HK.t hz);replace hz:=Nat.le_trans hz hg2.size;clear hm2 hm3 hg2 hmp;have h_:=HT.rz 4;go_upto_region 7 with fail;go_wp2_with (at_builtin;go_loud (refine aM rfl (.tmp 30) (.tmp 33) _ rfl (e:=3) (size:=1) (bytes:=8) Tryd.underlying40 infoI rfl (by omega) HT.out 6 rfl rfl [.int .i64 v.n] 3 rfl rfl (by simp[Value.oneCell']) (by unfold maxLen;omega) (by omega) HT.base ?next))
     case next=>
      intro A10 c11 W12 T' K' hs3;try rw[o8] at T' K'
      clear h_;replace T':St B w0 W12 (.blk w.heap.size #[.int .i64 v.k,.int .i64 v.n] 47:: .blk bo #[.slice A2 (out.length+1) c3] 40:: .row B 3 1 (.slice A2 (out.length+1) c3) (out.length+1) (cat (ics (out++[v.k]))):: .blk bp #[.map (some mb)] 45::dI Tryd.prog 3 3 (.int .i64 0) mb (ord++[v.n]) (fun x=> .int .i64 (plM 0 (ord++[v.n]) x)):: .blk bq #[.slice Aq ord.length cq] 40:: .row B 3 1 (.slice A10 (ord.length+1) c11) (ord.length+1) (cat (ics (ord++[v.n])))::R0):=T';replace K':au w2 (.blk w.heap.size #[.int .i64 v.k,.int .i64 v.n] 47:: .blk bo #[.slice A2 (out.length+1) c3] 40:: .row B 3 1 (.slice A2 (out.length+1) c3) (out.length+1) (cat (ics (out++[v.k]))):: .blk bp #[.map (some mb)] 45::dI Tryd.prog 3 3 (.int .i64 0) mb (ord++[v.n]) (fun x=> .int .i64 (plM 0 (ord++[v.n]) x)):: .blk bq #[.slice Aq ord.length cq] 40:: .row B 3 1 (.slice Aq ord.length cq) ord.length (cat (ics ord))::R0) W12 (.blk w.heap.size #[.int .i64 v.k,.int .i64 v.n] 47:: .blk bo #[.slice A2 (out.length+1) c3] 40:: .row B 3 1 (.slice A2 (out.length+1) c3) (out.length+1) (cat (ics (out++[v.k]))):: .blk bp #[.map (some mb)] 45::dI Tryd.prog 3 3 (.int .i64 0) mb (ord++[v.n]) (fun x=> .int .i64 (plM 0 (ord++[v.n]) x)):: .blk bq #[.slice Aq ord.length cq] 40:: .row B 3 1 (.slice A10 (ord.length+1) c11) (ord.length+1) (cat (ics (ord++[v.n])))::R0):=K';replace HT:=zG T';replace HK:=zG (HK.trans (by omega) K');replace hz:w.heap.size≤W12.heap.size:=(by omega);clear T' K';have h_:=HT.rz 4;go_upto_region 8 with fail;clear h_;obtain⟨T',K'⟩:=HT.put 5 0 (.slice A10 (ord.length+1) c11) rfl;simp only[zC,zB,zA] at T' K';replace⟨HT,HK⟩:=sp1 (And.intro T' K') (HK.t hz);clear T' K';replace hz:=HT.zz hz;generalize W12.setCell ⟨bq,0,none⟩ (.slice A10 (ord.length+1) c11)=W13 at*;have h_:=HT.rz 4;go_wp2_with (at_builtin;go_loud (refine aM rfl (.tmp 35) (.tmp 37) _ rfl (e:=3) (size:=1) (bytes:=8) Tryd.underlying40 infoI rfl (by omega) HT.out 2 rfl rfl [.int .i64 ((ord.length:Int))] 3 rfl rfl (by simp[Value.oneCell']) (by unfold maxLen;omega) (by omega) HT.base ?next))
      case next=>
       intro A14 c15 W16 T' K' hs3;try rw[o8] at T' K'
       clear h_;replace T':St B w0 W16 (.blk w.heap.size #[.int .i64 v.k,.int .i64 v.n] 47:: .blk bo #[.slice A2 (out.length+1) c3] 40:: .row B 3 1 (.slice A14 ((out.length+1)+1) c15) ((out.length+1)+1) (cat (ics (out++[v.k]++[(ord.length:Int)]))):: .blk bp #[.map (some mb)] 45::dI Tryd.prog 3 3 (.int .i64 0) mb (ord++[v.n]) (fun x=> .int .i64 (plM 0 (ord++[v.n]) x)):: .blk bq #[.slice A10 (ord.length+1) c11] 40:: .row B 3 1 (.slice A10 (ord.length+1) c11) (ord.length+1) (cat (ics (ord++[v.n])))::R0):=T';replace K':au W13 (.blk w.heap.size #[.int .i64 v.k,.int .i64 v.n] 47:: .blk bo #[.slice A2 (out.length+1) c3] 40:: .row B 3 1 (.slice A2 (out.length+1) c3) (out.length+1) (cat (ics (out++[v.k]))):: .blk bp #[.map (some mb)] 45::dI Tryd.prog 3 3 (.int .i64 0) mb (ord++[v.n]) (fun x=> .int .i64 (plM 0 (ord++[v.n]) x)):: .blk bq #[.slice A10 (ord.length+1) c11] 40:: .row B 3 1 (.slice A10 (ord.length+1) c11) (ord.length+1) (cat (ics (ord++[v.n])))::R0) W16 (.blk w.heap.size #[.int .i64 v.k,.int .i64 v.n] 47:: .blk bo #[.slice A2 (out.length+1) c3] 40:: .row B 3 1 (.slice A14 ((out.length+1)+1) c15) ((out.length+1)+1) (cat (ics (out++[v.k]++[(ord.length:Int)]))):: .blk bp #[.map (some mb)] 45::dI Tryd.prog 3 3 (.int .i64 0) mb (ord++[v.n]) (fun x=> .int .i64 (plM 0 (ord++[v.n]) x)):: .blk bq #[.slice A10 (ord.length+1) c11] 40:: .row B 3 1 (.slice A10 (ord.length+1) c11) (ord.length+1) (cat (ics (ord++[v.n])))::R0):=K';replace HT:=zG T';replace HK:=zG (HK.trans (by omega) K');replace hz:w.heap.size≤W16.heap.size:=(by omega);clear T' K';have h_:=HT.rz 4;go_wp2_with fail;clear h_;obtain⟨T',K'⟩:=HT.put 1 0 (.slice A14 ((out.length+1)+1) c15) rfl;simp only[zC,zB,zA] at T' K';replace⟨HT,HK⟩:=sp1 (And.intro T' K') (HK.t hz);clear T' K';replace hz:=HT.zz hz;generalize W16.setCell ⟨bo,0,none⟩ (.slice A14 ((out.length+1)+1) c15)=W17 at*;have h_:=HT.rz 4;clear h_;replace⟨HT,HK⟩:=sp1 (nd0 (HT.drop 0)) (HK.t hz);try simp only[Exit.inBlock,Exit.then]
       first|go_end0|refine bodyPost_ret (results_none rfl _ _ _) rfl ?_
       refine⟨rfl,A14,c15,A10,c11,?_⟩;have e1:kV ord v=ord++[v.n]:=if_pos ⟨HK2.out,hm⟩;have e3:mX out ord v=out++[v.k]++[(ord.length:Int)]:=by
        unfold mX;rw[if_pos HK2.out,e1,plM_snoc hm,if_pos rfl,HK2.out];simp
       rw[e1,e3,show(out++[v.k]++[(ord.length:Int)]).length=out.length+1+1 by simp,show(ord++[v.n]).length=ord.length+1 by simp];exact⟨HT.out,HK.out,hz⟩
  ·have e2:(v.k==2)=false:=(by simpa using hk);clear h_;have h_:=HT.rz 4;go_upto_region 9 with fail;go_wp2_with (at_builtin;go_loud (refine aM rfl (.tmp 39) (.tmp 42) _ rfl (e:=3) (size:=1) (bytes:=8) Tryd.underlying40 infoI rfl (by omega) HT.out 2 rfl rfl [.int .i64 v.n] 3 rfl rfl (by simp[Value.oneCell']) (by unfold maxLen;omega) (by omega) HT.base ?next))
   case next=>
    intro A18 c19 W20 T' K' hs3;try rw[o8] at T' K'
    clear h_;replace T':St B w0 W20 (.blk w.heap.size #[.int .i64 v.k,.int .i64 v.n] 47:: .blk bo #[.slice A2 (out.length+1) c3] 40:: .row B 3 1 (.slice A18 ((out.length+1)+1) c19) ((out.length+1)+1) (cat (ics (out++[v.k]++[v.n]))):: .blk bp #[.map (some mb)] 45::dI Tryd.prog 3 3 (.int .i64 0) mb ord (fun x=> .int .i64 (plM 0 ord x)):: .blk bq #[.slice Aq ord.length cq] 40:: .row B 3 1 (.slice Aq ord.length cq) ord.length (cat (ics ord))::R0):=T';replace K':au W5 (.blk w.heap.size #[.int .i64 v.k,.int .i64 v.n] 47:: .blk bo #[.slice A2 (out.length+1) c3] 40:: .row B 3 1 (.slice A2 (out.length+1) c3) (out.length+1) (cat (ics (out++[v.k]))):: .blk bp #[.map (some mb)] 45::dI Tryd.prog 3 3 (.int .i64 0) mb ord (fun x=> .int .i64 (plM 0 ord x)):: .blk bq #[.slice Aq ord.length cq] 40:: .row B 3 1 (.slice Aq ord.length cq) ord.length (cat (ics ord))::R0) W20 (.blk w.heap.size #[.int .i64 v.k,.int .i64 v.n] 47:: .blk bo #[.slice A2 (out.length+1) c3] 40:: .row B 3 1 (.slice A18 ((out.length+1)+1) c19) ((out.length+1)+1) (cat (ics (out++[v.k]++[v.n]))):: .blk bp #[.map (some mb)] 45::dI Tryd.prog 3 3 (.int .i64 0) mb ord (fun x=> .int .i64 (plM 0 ord x)):: .blk bq #[.slice Aq ord.length cq] 40:: .row B 3 1 (.slice Aq ord.length cq) ord.length (cat (ics ord))::R0):=K';replace HT:=zG T';replace HK:=zG (HK.trans (by omega) K');replace hz:w.heap.size≤W20.heap.size:=(by omega);clear T' K';have h_:=HT.rz 4;go_wp2_with fail;clear h_;obtain⟨T',K'⟩:=HT.put 1 0 (.slice A18 ((out.length+1)+1) c19) rfl;simp only[zC,zB,zA] at T' K';replace⟨HT,HK⟩:=sp1 (And.intro T' K') (HK.t hz);clear T' K';replace hz:=HT.zz hz;generalize W20.setCell ⟨bo,0,none⟩ (.slice A18 ((out.length+1)+1) c19)=W21 at*;have h_:=HT.rz 4;clear h_;replace⟨HT,HK⟩:=sp1 (nd0 (HT.drop 0)) (HK.t hz);try simp only[Exit.inBlock,Exit.then]
    first|go_end0|refine bodyPost_ret (results_none rfl _ _ _) rfl ?_
    refine⟨rfl,A18,c19,Aq,cq,?_⟩;have e1:kV ord v=ord:=if_neg (fun h=>hk h.1);have e3:mX out ord v=out++[v.k]++[v.n]:=(by unfold mX;rw[if_neg hk];simp);rw[e1,e3,show(out++[v.k]++[v.n]).length=out.length+1+1 by simp];exact⟨HT.out,HK.out,hz⟩
end
section
open Go.RowKit
def aZ:List Int→List V→List Int
 |ord,[]=>ord
 |ord,v::l=>aZ (kV ord v) l
def cB:List Int→List Int→List V→List Int
 |out,_,[]=>out
 |out,ord,v::l=>cB (mX out ord v) (kV ord v) l
theorem sayQ_fresh (ord:List Int) (v:V):kV ord v=if fresh ord v then ord++[v.n] else ord:=by
 unfold kV fresh;by_cases h1:v.k=2<;>by_cases h2:v.n∈ord<;>simp[h1,h2]
theorem lY:∀(l:List V) (ord:List Int),aZ ord l=come ord l
 | [],_=>rfl
 |v::l,ord=>by
  simp only[aZ,come];rw[lY l,sayQ_fresh];split<;>rfl
theorem uC:∀(l:List V) (ord:List Int) (x:V),aZ ord (l++[x])=kV (aZ ord l) x
 | [],_,_=>rfl
 |_::l,_,x=>uC l _ x
theorem tK:∀(l:List V) (out ord:List Int) (x:V),cB out ord (l++[x])=mX (cB out ord l) (aZ ord l) x
 | [],_,_,_=>rfl
 |_::l,_,_,x=>tK l _ _ x
theorem say_take {l:List V} {k:Nat} {x:V} (h:l[k]?=some x) (out ord:List Int):aZ ord (l.take (k+1))=kV (aZ ord (l.take k)) x∧cB out ord (l.take (k+1))=mX (cB out ord (l.take k)) (aZ ord (l.take k)) x:=by
 rw[List.take_add_one,h];exact⟨uC _ _ _,tK _ _ _ _⟩
theorem sayO_len (out ord:List Int) (v:V):(mX out ord v).length=out.length+2:=by
 unfold mX;split<;>simp
theorem nD:∀(l:List V) (out ord:List Int),(cB out ord l).length=out.length+2*l.length
 | [],_,_=>rfl
 |v::l,out,ord=>by
  simp only[cB];rw[nD l,sayO_len];simp
  omega
theorem sayQs_pre (ord:List Int) (l:List V):∃nw,aZ ord l=ord++nw:=by
 rw[lY];exact pg l ord
theorem nY {n:Nat} {ord:List Int} {l:List V} (h:Told n ord) (hr:kH n l):Told n (aZ ord l):=by
 rw[lY];exact h.come hr
theorem sayO_enc {out ord r:List Int} {v:V} (hr:∃s,r=kV ord v++s):mX out ord v=out++encV r v:=by
 obtain⟨s,rfl⟩:=hr;unfold mX encV;by_cases hk:v.k=2
 ·rw[if_pos hk,if_pos hk];have hm:v.n∈kV ord v:=by
   unfold kV;by_cases h2:v.n∈ord
   ·rw[if_neg (fun h=>h.2 h2)];exact h2
   ·rw[if_pos ⟨hk,h2⟩];simp
  unfold plM;rw[if_pos hm,List.idxOf_append,if_pos hm];simp
 ·rw[if_neg hk,if_neg hk]
theorem rF:∀{l:List V} {out ord r:List Int},(∃s,r=aZ ord l++s)→cB out ord l=out++encL r l
 | [],out,ord,r,_=>by simp[cB,encL]
 |v::l,out,ord,r,h=>by
  obtain⟨s,hs⟩:=h;obtain⟨nw,hn⟩:=sayQs_pre (kV ord v) l;simp only[cB];rw[rF (l:=l) (r:=r) ⟨s,hs⟩,sayO_enc (r:=r) ⟨nw++s,by rw[hs];simp only[aZ];rw[hn,List.append_assoc]⟩];simp[encL]
structure FormI (os:List Ob) (roots:List V) (k:Nat) (out ord:List Int):Prop where
 led:∀r,Led os (jV os (ord.drop k)) ord r→Led os roots [] r
 form:∀r,(∃s,r=ord++s)→out=encL r roots++((r.take k).map (objF os r)).flatten
 told:Told os.length ord
 le:k≤ord.length
 len:out.length≤2*roots.length+10*k
theorem FormI.start {os:List Ob} {roots:List V} (h:kH os.length roots):FormI os roots 0 (cB [] [] roots) (aZ [] roots):=by
 refine⟨fun r hl=>?_,fun r hr=>?_,nY Told.nil h,Nat.zero_le _,by rw[nD];simp⟩
 ·have:=Led.row (os:=os) (l:=roots) (rest:=[]) (out:=[]) (nw:=aZ [] roots) (r:=r) (by rw[←lY];rfl) (by simpa using hl);simpa using this
 ·rw[rF (r:=r) hr];simp
theorem FormI.next {os:List Ob} {roots:List V} {k:Nat} {out ord:List Int} (h:FormI os roots k out ord) (hs:∀o∈os,o.fields.length≤4) (hf:∀o∈os,kH os.length o.fields) {x:Int} (hx:ord[k]?=some x):
  FormI os roots (k+1) (cB (out++[-1,((fieldsOf os x).length:Int)]) ord (fieldsOf os x)) (aZ ord (fieldsOf os x)):=by
 have hk:k<ord.length:=(zE.1 hx).1;obtain⟨nw,hn⟩:=sayQs_pre ord (fieldsOf os x);have h4:(fieldsOf os x).length≤4:=by
  unfold fieldsOf;split
  ·rename_i o ho;exact hs o (zF ho)
  ·simp
 have hd:ord.drop k=x::ord.drop (k+1):=by
  rw[List.drop_eq_getElem_cons hk];congr 1
  rw[zD hk] at hx;exact Option.some.inj hx
 refine⟨fun r hl=>h.led r ?_,fun r hr=>?_,nY h.told (oV hf x),by rw[hn];simp;omega,?_⟩
 ·rw[hn,List.drop_append_of_le_length (by omega),qU] at hl;rw[hd,show jV os (x::ord.drop (k+1))=fieldsOf os x++jV os (ord.drop (k+1)) by simp[jV]];exact Led.row (nw:=nw) (by rw[←lY];exact hn) hl
 ·obtain⟨s,hs'⟩:=hr;rw[rF (r:=r) ⟨s,hs'⟩,h.form r ⟨nw++s,by rw[hs',hn,List.append_assoc]⟩];have hrx:r[k]?=some x:=by
   rw[hs',hn,List.append_assoc,List.getElem?_append_left hk];exact hx
  rw[List.take_add_one,hrx];simp[objF,List.append_assoc]
 ·rw[nD];have:=h.len;simp
  omega
theorem FormI.done {os:List Ob} {roots:List V} {k:Nat} {out ord:List Int} (h:FormI os roots k out ord) (hk:¬k<ord.length):out=lu os roots:=by
 have e:k=ord.length:=(by have:=h.le;omega);have hl:Led os roots [] ord:=h.led ord (by rw[e,List.drop_length];exact .done _);have:=h.form ord ⟨[],by simp⟩;rw[this,e,List.take_length];unfold lu formR;rw[dM hl]
end
section
open Go.RowKit
end
section
open Go.RowKit
end
section
open Go.RowKit
end
section
open Go.RowKit Go.Maps
theorem ics_len (l:List Int):(cat (ics l)).length=l.length*1:=by rw[pM];simp
theorem ics_one (l:List Int):∀u∈cat (ics l),u.oneCell'=true:=fun u hu=>by
 rw[pM] at hu;obtain⟨x,_,rfl⟩:=List.mem_map.1 hu;rfl
theorem ics_app {l m:List Int}:cat (ics l)++cat (ics m)=cat (ics (l++m)):=by simp[pM]
theorem held_ics {w:World} {S:Nat→Prop} {l:List Int} {css:List (List Value)} (h:Held iE w S css l):css=ics l:=by
 obtain⟨h1,h2⟩:=h;apply List.ext_getElem?
 intro i;simp only[ics,List.getElem?_map]
 cases hx:l[i]? with
 |none=>
  rw[List.getElem?_eq_none (by rw[h1];exact List.getElem?_eq_none_iff.1 hx)];rfl
 |some x=>
  have hi:i<css.length:=(by rw[h1];exact(zE.1 hx).1);rw[zD hi];exact congrArg some (h2 i x _ hx (zD hi)).2
theorem rdI_fcells {w:World} {S:Nat→Prop} {A:Option Addr} {n c:Nat} {xs:List Int} (h:aj iE w S (.slice A n c) xs):∀ad,A=some ad→∀(j:Nat) (u:Value),(cat (ics xs))[j]?=some u→w.cell? (ad.add j)=some u:=fun ad hA j u hu=>by
 obtain⟨css,hH,hc⟩:=h.held;obtain rfl:=held_ics hH;exact hc ad hA j u hu
theorem ics_cell {w:World} {base g n c:Nat} {l:List Int} (h:w.ownsRow base 3 1 (.slice (some ⟨g,0,none⟩) n c) n (cat (ics l))) {k:Nat} {x:Int} (hx:l[k]?=some x):w.cell? ⟨g,k,none⟩=some (.int .i64 x):=
 oJ h (by rw[pM,List.getElem?_map,hx];rfl)
set_option maxRecDepth 100000 in
set_option maxHeartbeats 8000000 in
theorem form_any (m:Int) (S T:Nat→Prop) (A R:Option Addr) (c d:Nat) (os:List Ob) (roots:List V) (w:World) (hr:aj obE w S (.slice A os.length c) os) (hq:aj vE w T (.slice R roots.length d) roots) (hp:hpB ⟨m,os⟩ roots=true) (hfr:roots.length≤100):
  Calls Tryd.prog 73 #[.agg #[.int .i64 m,.slice A os.length c],.slice R roots.length d] w fun e w'=>∃A' c',e= .returned (.slice A' (lu os roots).length c')∧aj iE w' (fun b=>w.heap.size≤b) (.slice A' (lu os roots).length c') (lu os roots)∧Below w.heap.size w w':=by
 obtain⟨-,l1,l2,-⟩:=hr.fw;obtain⟨-,l3,l4,-⟩:=hq.fw;have Hok:=zG (mF hp);have Hsl:=zG (hpB_slim hp);have Hr:=zG hr;have Hq:=zG hq;clear hr hq hp;have T0:St w.heap.size w ((w.alloc (.cells #[.int .i64 m,.slice A os.length c] 36))) [.blk w.heap.size #[.int .i64 m,.slice A os.length c] 36]:=((St.start w (Nat.le_refl _)).new' #[.int .i64 m,.slice A os.length c] 36 (w.heap.size) (by simp)).1;have HT:=zG T0;have hz:w.heap.size+1≤(w.alloc (.cells #[.int .i64 m,.slice A os.length c] 36)).heap.size:=(by simp);clear T0;replace Hr:=zG (Hr.pool (by decide) HT.out);replace Hq:=zG (Hq.pool (by decide) HT.out);go_enter Tryd.func73,Tryd.ntmps73
 go_upto_region 1 with fail;generalize (w.alloc (.cells #[.int .i64 m,.slice A os.length c] 36))=W1 at*;have h_:=HT.rz 1;have hmm:=@run_makeMap Tryd.prog;go_upto_region 2 with fail;replace⟨HT,Hr,Hq⟩:=sp2 (HT.new' #[.slice none 0 0] 40 W1.heap.size) Hr.s Hq.s;replace hz:=HT.zz hz;clear h_;generalize (W1.alloc (.cells #[.slice none 0 0] 40))=W2 at*;go_upto_region 3 with fail;obtain⟨T',K'⟩:=HT.made (w':=W2.alloc (.map #[] 0)) ((Below.refl _ _).alloc (Nat.le_refl _) _) (dI Tryd.prog 3 3 (.int .i64 0) W2.heap.size [] (fun x=> .int .i64 (plM 0 [] x))) (MapW.made (plainElem_int Tryd.underlying3 (a:=0) (by decide))) (fun b hb=>by replace hb:b=W2.heap.size:=hb;subst hb;simp);replace HT:=zG T';replace Hr:=zG (Hr.move (by decide) K');replace Hq:=zG (Hq.move (by decide) K');replace hz:=HT.zz hz;clear T' K';replace⟨HT,Hr,Hq⟩:=sp2 (HT.new' #[.map (some W2.heap.size)] 45 (W2.heap.size+1)) Hr.s Hq.s;replace hz:=HT.zz hz;generalize ((W2.alloc (.map #[] 0)).alloc (.cells #[.map (some W2.heap.size)] 45))=W3 at*;have h_:=HT.rz 3;go_upto_region 5 with fail;clear hmm;replace⟨HT,Hr,Hq⟩:=sp2 (HT.new' #[.slice none 0 0] 40 W3.heap.size) Hr.s Hq.s;replace hz:=HT.zz hz;clear h_;generalize (W3.alloc (.cells #[.slice none 0 0] 40))=W4 at*;replace⟨HT,Hr,Hq⟩:=sp2 (HT.kg w.heap.size 3 1) Hr.s Hq.s;replace⟨HT,Hr,Hq⟩:=sp2 (HT.kg w.heap.size 3 1) Hr.s Hq.s;replace⟨HT,Hr,Hq⟩:=sp2 (HT.perm (.trans (.cons _ (.swap _ _ _)) (.swap _ _ _))) Hr.s Hq.s;replace⟨HT,Hr,Hq⟩:=sp2 (HT.perm (.trans (.trans (.trans (.cons _ (.cons _ (.cons _ (.swap _ _ _)))) (.cons _ (.cons _ (.swap _ _ _)))) (.cons _ (.swap _ _ _))) (.swap _ _ _))) Hr.s Hq.s;replace⟨HT,Hr,Hq⟩:=sp2 (HT.perm (.trans (.trans (.trans (.cons _ (.cons _ (.cons _ (.swap _ _ _)))) (.cons _ (.cons _ (.swap _ _ _)))) (.cons _ (.swap _ _ _))) (.swap _ _ _))) Hr.s Hq.s;replace⟨HT,Hr,Hq⟩:=sp2 (HT.perm (.trans (.trans (.trans (.cons _ (.cons _ (.cons _ (.swap _ _ _)))) (.cons _ (.cons _ (.swap _ _ _)))) (.cons _ (.swap _ _ _))) (.swap _ _ _))) Hr.s Hq.s;replace⟨HT,Hr,Hq⟩:=sp2 (HT.perm (.trans (.trans (.trans (.trans (.cons _ (.cons _ (.cons _ (.cons _ (.swap _ _ _))))) (.cons _ (.cons _ (.cons _ (.swap _ _ _))))) (.cons _ (.cons _ (.swap _ _ _)))) (.cons _ (.swap _ _ _))) (.swap _ _ _))) Hr.s Hq.s;have h_:=HT.rz 4;go_wp2_with fail;go_loopw [19] (fun i wl5=>∃(k:Nat) (Ao:Option Addr) (co:Nat) (Aq:Option Addr) (cq:Nat),(fun R9:List Res=>i= .int .i64 k∧k≤roots.length∧St w.heap.size w wl5 R9∧aj obE wl5 (Fr 0 R9) (.slice A os.length c) os∧aj vE wl5 (Fr 0 R9) (.slice R roots.length d) roots∧w.heap.size+1≤wl5.heap.size) [.blk W1.heap.size #[.slice Ao (cB [] [] (roots.take k)).length co] 40,.row w.heap.size 3 1 (.slice Ao (cB [] [] (roots.take k)).length co) ((cB [] [] (roots.take k)).length) (cat (ics (cB [] [] (roots.take k)))),.blk (W2.heap.size+1) #[.map (some W2.heap.size)] 45,dI Tryd.prog 3 3 (.int .i64 0) W2.heap.size (aZ [] (roots.take k)) (fun x=> .int .i64 (plM 0 (aZ [] (roots.take k)) x)),.blk W3.heap.size #[.slice Aq (aZ [] (roots.take k)).length cq] 40,.row w.heap.size 3 1 (.slice Aq (aZ [] (roots.take k)).length cq) ((aZ [] (roots.take k)).length) (cat (ics (aZ [] (roots.take k)))),.blk w.heap.size #[.int .i64 m,.slice A os.length c] 36]) (fun i _=>roots.length - (intOf i).toNat)
 case atStart=>
  refine⟨0,none,0,none,0,?_,?_,HT.out,Hr.out,Hq.out,hz⟩
  ·rfl
  ·exact Nat.zero_le _
 case round=>
  generalize wr=wl5 at*;clear HT Hr Hq hz;obtain⟨k,Ao,co,Aq,cq,rfl,hk,ht,pHr,pHq,hz⟩:=hrel;have HT:=zG ht;have Hr:Hid (aj obE wl5 (Fr 0 [.blk W1.heap.size #[.slice Ao (cB [] [] (roots.take k)).length co] 40,.row w.heap.size 3 1 (.slice Ao (cB [] [] (roots.take k)).length co) ((cB [] [] (roots.take k)).length) (cat (ics (cB [] [] (roots.take k)))),.blk (W2.heap.size+1) #[.map (some W2.heap.size)] 45,dI Tryd.prog 3 3 (.int .i64 0) W2.heap.size (aZ [] (roots.take k)) (fun x=> .int .i64 (plM 0 (aZ [] (roots.take k)) x)),.blk W3.heap.size #[.slice Aq (aZ [] (roots.take k)).length cq] 40,.row w.heap.size 3 1 (.slice Aq (aZ [] (roots.take k)).length cq) ((aZ [] (roots.take k)).length) (cat (ics (aZ [] (roots.take k)))),.blk w.heap.size #[.int .i64 m,.slice A os.length c] 36]) (.slice A os.length c) os):=zG pHr;have Hq:Hid (aj vE wl5 (Fr 0 [.blk W1.heap.size #[.slice Ao (cB [] [] (roots.take k)).length co] 40,.row w.heap.size 3 1 (.slice Ao (cB [] [] (roots.take k)).length co) ((cB [] [] (roots.take k)).length) (cat (ics (cB [] [] (roots.take k)))),.blk (W2.heap.size+1) #[.map (some W2.heap.size)] 45,dI Tryd.prog 3 3 (.int .i64 0) W2.heap.size (aZ [] (roots.take k)) (fun x=> .int .i64 (plM 0 (aZ [] (roots.take k)) x)),.blk W3.heap.size #[.slice Aq (aZ [] (roots.take k)).length cq] 40,.row w.heap.size 3 1 (.slice Aq (aZ [] (roots.take k)).length cq) ((aZ [] (roots.take k)).length) (cat (ics (aZ [] (roots.take k)))),.blk w.heap.size #[.int .i64 m,.slice A os.length c] 36]) (.slice R roots.length d) roots):=zG pHq;clear ht pHr pHq;have ho9:=nD (roots.take k) [] [];have hq9:=(nY (l:=roots.take k) Told.nil (fun v hv=>Hok.roots v (List.mem_of_mem_take hv))).len;have hfew:=Hok.few;rw[List.length_take,Nat.min_eq_left hk] at ho9;simp only[List.length_nil,Nat.zero_add] at ho9;have HO9:=zG ho9;clear ho9;have h_:=HT.rz 3;by_cases hlt:k<roots.length
  ·obtain⟨x,hx⟩:∃x,roots[k]?=some x:=⟨_,zD hlt⟩;obtain⟨fb,fo,rfl,-,-,y0,y1⟩:=Hq.at_v hx;have HX:=zG hx;have i2:(k:Int)<(roots.length:Int):=(by omega);clear hx;clear h_;have h_:=HT.rz 3;go_upto_region 8 with fail;clear y0 y1;replace⟨HT,Hr,Hq⟩:=sp2 (HT.new' #[.int .i64 x.k,.int .i64 x.n] 47 wl5.heap.size) Hr.s Hq.s;replace hz:=HT.zz hz;clear h_;generalize (wl5.alloc (.cells #[.int .i64 x.k,.int .i64 x.n] 47))=W6 at*;have h_:=HT.rz 4;go_wp2_with fail;replace⟨HT,Hr,Hq⟩:=sp2 (HT.perm (.trans (.trans (.trans (.trans (.trans (.cons _ (.cons _ (.cons _ (.cons _ (.cons _ (.swap _ _ _)))))) (.cons _ (.cons _ (.cons _ (.cons _ (.swap _ _ _)))))) (.cons _ (.cons _ (.cons _ (.swap _ _ _))))) (.cons _ (.cons _ (.swap _ _ _)))) (.cons _ (.swap _ _ _))) (.swap _ _ _))) Hr.s Hq.s;replace⟨HT,Hr,Hq⟩:=sp2 (HT.perm (.trans (.trans (.trans (.trans (.trans (.cons _ (.cons _ (.cons _ (.cons _ (.cons _ (.swap _ _ _)))))) (.cons _ (.cons _ (.cons _ (.cons _ (.swap _ _ _)))))) (.cons _ (.cons _ (.cons _ (.swap _ _ _))))) (.cons _ (.cons _ (.swap _ _ _)))) (.cons _ (.swap _ _ _))) (.swap _ _ _))) Hr.s Hq.s;replace⟨HT,Hr,Hq⟩:=sp2 (HT.perm (.trans (.trans (.trans (.trans (.trans (.cons _ (.cons _ (.cons _ (.cons _ (.cons _ (.swap _ _ _)))))) (.cons _ (.cons _ (.cons _ (.cons _ (.swap _ _ _)))))) (.cons _ (.cons _ (.cons _ (.swap _ _ _))))) (.cons _ (.cons _ (.swap _ _ _)))) (.cons _ (.swap _ _ _))) (.swap _ _ _))) Hr.s Hq.s;replace⟨HT,Hr,Hq⟩:=sp2 (HT.perm (.trans (.trans (.trans (.trans (.trans (.cons _ (.cons _ (.cons _ (.cons _ (.cons _ (.swap _ _ _)))))) (.cons _ (.cons _ (.cons _ (.cons _ (.swap _ _ _)))))) (.cons _ (.cons _ (.cons _ (.swap _ _ _))))) (.cons _ (.cons _ (.swap _ _ _)))) (.cons _ (.swap _ _ _))) (.swap _ _ _))) Hr.s Hq.s;replace⟨HT,Hr,Hq⟩:=sp2 (HT.perm (.trans (.trans (.trans (.trans (.trans (.cons _ (.cons _ (.cons _ (.cons _ (.cons _ (.swap _ _ _)))))) (.cons _ (.cons _ (.cons _ (.cons _ (.swap _ _ _)))))) (.cons _ (.cons _ (.cons _ (.swap _ _ _))))) (.cons _ (.cons _ (.swap _ _ _)))) (.cons _ (.swap _ _ _))) (.swap _ _ _))) Hr.s Hq.s;replace⟨HT,Hr,Hq⟩:=sp2 (HT.perm (.trans (.trans (.trans (.trans (.trans (.cons _ (.cons _ (.cons _ (.cons _ (.cons _ (.swap _ _ _)))))) (.cons _ (.cons _ (.cons _ (.cons _ (.swap _ _ _)))))) (.cons _ (.cons _ (.cons _ (.swap _ _ _))))) (.cons _ (.cons _ (.swap _ _ _)))) (.cons _ (.swap _ _ _))) (.swap _ _ _))) Hr.s Hq.s;refine(say_any w.heap.size w W6 [.blk wl5.heap.size #[.int .i64 x.k,.int .i64 x.n] 47,.blk w.heap.size #[.int .i64 m,.slice A os.length c] 36] W1.heap.size (W2.heap.size+1) W3.heap.size W2.heap.size Ao Aq co cq (cB [] [] (roots.take k)) (aZ [] (roots.take k)) x (fun hk=>by have:=Hok.roots x (zF HX.out) hk;omega) (by rw[HO9.out];omega) (by omega) HT.out).mono ?_;rintro en W7 ⟨rfl,Ao',co',Aq',cq',hT,hK,hs⟩;clear h_;have K':=hK;replace HT:=zG hT;replace Hr:=zG (Hr.move (by decide) K');replace Hq:=zG (Hq.move (by decide) K');replace hz:w.heap.size+1≤W7.heap.size:=Nat.le_trans hz hs;clear K' hK hT hs;replace⟨HT,Hr,Hq⟩:=sp2 (nd6 (HT.drop 6)) Hr.s Hq.s;have h_:=HT.rz 3;go_wp2_with fail;obtain⟨e1,e2⟩:=say_take HX.out [] [];have ht9:=HT.out;have hr9:=Hr.out;have hq8:=Hq.out;rw[←e1,←e2] at ht9 hr9 hq8;replace HT:=zG ht9;replace Hr:=zG hr9;replace Hq:=zG hq8;clear ht9 hr9 hq8 e1 e2;clear h_;go_roundw
   case rel=>
    refine⟨k+1,Ao',co',Aq',cq',?_,?_,HT.out,Hr.out,Hq.out,hz⟩
    ·go_num
    ·omega
   case measure=>simp[intOf];omega
  ·have hkk:k=roots.length:=(by omega);subst hkk;have ht9:=HT.out;have hr9:=Hr.out;have hq8:=Hq.out;rw[List.take_length] at ht9 hr9 hq8;replace HT:=zG ht9;replace Hr:=zG hr9;clear ht9 hr9 hq8 Hq hk hlt HO9 hq9;have i2:¬(roots.length:Int)<(roots.length:Int):=(by omega);clear h_;have h_:=HT.rz 3;go_wp2_with fail;go_loopw [11] (fun i wl8=>∃(k:Nat) (out ord:List Int) (Ao:Option Addr) (co:Nat) (Aq:Option Addr) (cq:Nat),(fun R9:List Res=>i= .int .i64 k∧FormI os roots k out ord∧St w.heap.size w wl8 R9∧aj obE wl8 (Fr 0 R9) (.slice A os.length c) os∧w.heap.size+1≤wl8.heap.size) [.blk W1.heap.size #[.slice Ao out.length co] 40,.row w.heap.size 3 1 (.slice Ao out.length co) out.length (cat (ics out)),.blk (W2.heap.size+1) #[.map (some W2.heap.size)] 45,dI Tryd.prog 3 3 (.int .i64 0) W2.heap.size ord (fun x=> .int .i64 (plM 0 ord x)),.blk W3.heap.size #[.slice Aq ord.length cq] 40,.row w.heap.size 3 1 (.slice Aq ord.length cq) ord.length (cat (ics ord)),.blk w.heap.size #[.int .i64 m,.slice A os.length c] 36]) (fun i _=>os.length+1 - (intOf i).toNat)
   case atStart=>
    refine⟨0,cB [] [] roots,aZ [] roots,Ao,co,Aq,cq,?_,?_,HT.out,Hr.out,hz⟩
    ·rfl
    ·exact FormI.start Hok.roots
   case round=>
    generalize wr=wl8 at*;clear HT Hr hz;obtain⟨k,out,ord,Ao,co,Aq,cq,rfl,hI,ht,pHr,hz⟩:=hrel;have HT:=zG ht;have Hr:Hid (aj obE wl8 (Fr 0 [.blk W1.heap.size #[.slice Ao out.length co] 40,.row w.heap.size 3 1 (.slice Ao out.length co) out.length (cat (ics out)),.blk (W2.heap.size+1) #[.map (some W2.heap.size)] 45,dI Tryd.prog 3 3 (.int .i64 0) W2.heap.size ord (fun x=> .int .i64 (plM 0 ord x)),.blk W3.heap.size #[.slice Aq ord.length cq] 40,.row w.heap.size 3 1 (.slice Aq ord.length cq) ord.length (cat (ics ord)),.blk w.heap.size #[.int .i64 m,.slice A os.length c] 36]) (.slice A os.length c) os):=zG pHr;clear ht pHr;have hol:=hI.len;have hle:=hI.le;have hot:=hI.told.len;have hfew:=Hok.few;have HI:=zG hI;clear hI;have h_:=HT.rz 4;by_cases hlt:k<ord.length
    ·obtain⟨x,hx⟩:∃x,ord[k]?=some x:=⟨_,zD hlt⟩;have hxw:=HI.told.within x (zF hx);obtain⟨j,rfl⟩:=Int.eq_ofNat_of_zero_le hxw.1;have hj:j<os.length:=(by omega);obtain⟨ob,hob⟩:∃ob,os[j]?=some ob:=⟨_,zD hj⟩;obtain⟨pb,po,Bf,df,rfl,-,-,y1,y2,hfd⟩:=Hr.at_o hob;obtain⟨gq,rfl,-⟩:=jH (HT.own 5 rfl) (by omega);have hfo:fieldsOf os (j:Int)=ob.fields:=(by unfold fieldsOf;rw[Int.toNat_natCast,hob]);have HN:=zG (HI.next Hsl.out Hok.fields hx);have HFO:=zG hfo;have h4:=Hsl.out ob (zF hob);have HFR:=zG (Hok.fields ob (zF hob));have Hfd:=zG hfd;have y0:=ics_cell (HT.own 5 rfl) hx;have i1:(0:Int)≤(k:Int):=(by omega);have i2:(k:Int)<(ord.length:Int):=(by omega);have i3:(0:Int)≤(j:Int):=(by omega);have i4:(j:Int)<(os.length:Int):=(by omega);clear hx hob hfo hfd hxw;clear h_;have h_:=HT.rz 4;go_upto_region 13 with fail;refine av [.still [0,1,2,3,4,5,6,7],.loud 8 [0,1,2,3,4,5,6,7],.loud 9 []] (by kernel_rfl) (by kernel_rfl) ?_;refine ps_ ?_;repeat still_step
     refine zH ?_;refine pl_ ?_;go_wp2_with fail;replace⟨HT,Hr,Hfd⟩:=sp2 (HT.new' #[.slice none 0 0,.bool false] 96 wl8.heap.size) Hr.s Hfd.s;replace hz:=HT.zz hz;replace y0:=nK y0 (.cells #[.slice none 0 0,.bool false] 96);replace y1:=nK y1 (.cells #[.slice none 0 0,.bool false] 96);replace y2:=nK y2 (.cells #[.slice none 0 0,.bool false] 96);clear h_;generalize (wl8.alloc (.cells #[.slice none 0 0,.bool false] 96))=W9 at*;have h_:=HT.rz 5;refine ag_ ?_;refine pl_ ?_;go_wp2_with fail;clear h_;replace⟨HT,Hr,Hfd⟩:=sp2 (ns0 (HT.dt 0 (.slice Bf ob.fields.length df) (.bool ob.dead) rfl rfl)) Hr.s Hfd.s;replace hz:=HT.zz hz;generalize (W9.setCell ⟨wl8.heap.size,0,none⟩ (.slice Bf ob.fields.length df)).setCell ⟨wl8.heap.size,1,none⟩ (.bool ob.dead)=W10 at*;refine⟨trivial,?_⟩;refine zI ?_;replace⟨HT,Hr,Hfd⟩:=sp2 HT.drew' Hr.s Hfd.s;replace hz:=HT.zz hz;generalize W10.drew=W11 at*;clear y0 y1 y2;have h_:=HT.rz 5;replace⟨HT,Hr,Hfd⟩:=sp2 (HT.new' #[.int .i64 (-1),.int .i64 ob.fields.length] 3 W11.heap.size) Hr.s Hfd.s;replace hz:=HT.zz hz;have hnn:aj iE (W11.alloc (.cells #[.int .i64 (-1),.int .i64 ob.fields.length] 3)) (fun _=>True) (.slice (some ⟨W11.heap.size,0,none⟩) 2 2) [-1,(ob.fields.length:Int)]:=rT (E:=iE) (css:=ics [-1,(ob.fields.length:Int)]) (HT.heap 0 rfl) trivial (ics_held _) rfl (by show 2*8≤140737488355328;decide) (by show 2≤maxLen;decide) 2 rfl;have HNN:=zG hnn;clear hnn;go_wp2_with (at_builtin;go_loud (refine fC rfl (.tmp 41) (.tmp 45) _ rfl (e:=3) (size:=1) (bytes:=8) Tryd.underlying40 infoI rfl (by omega) HT.out 3 rfl rfl (some ⟨W11.heap.size,0,none⟩) 2 2 (cat (ics ([-1,(ob.fields.length:Int)]))) rfl (ics_len _) (rdI_fcells HNN.out) (fun h=>by cases h) (ics_one _) (by unfold maxLen;omega) (by omega) HT.base ?next))
     case next=>
      intro A12 c13 W14 T' K' hs3;try rw[ics_app] at T' K'
      clear h_;replace T':St w.heap.size w W14 [.blk W11.heap.size #[.int .i64 (-1),.int .i64 ob.fields.length] 3,.blk wl8.heap.size #[.slice Bf ob.fields.length df,.bool ob.dead] 96,.blk W1.heap.size #[.slice Ao out.length co] 40,.row w.heap.size 3 1 (.slice A12 (out.length+2) c13) (out.length+2) (cat (ics (out++[-1,(ob.fields.length:Int)]))),.blk (W2.heap.size+1) #[.map (some W2.heap.size)] 45,dI Tryd.prog 3 3 (.int .i64 0) W2.heap.size ord (fun x=> .int .i64 (plM 0 ord x)),.blk W3.heap.size #[.slice (some ⟨gq,0,none⟩) ord.length cq] 40,.row w.heap.size 3 1 (.slice (some ⟨gq,0,none⟩) ord.length cq) ord.length (cat (ics ord)),.blk w.heap.size #[.int .i64 m,.slice (some ⟨pb,po,none⟩) os.length c] 36]:=T';replace K':au ((W11.alloc (.cells #[.int .i64 (-1),.int .i64 ob.fields.length] 3))) [.blk W11.heap.size #[.int .i64 (-1),.int .i64 ob.fields.length] 3,.blk wl8.heap.size #[.slice Bf ob.fields.length df,.bool ob.dead] 96,.blk W1.heap.size #[.slice Ao out.length co] 40,.row w.heap.size 3 1 (.slice Ao out.length co) out.length (cat (ics out)),.blk (W2.heap.size+1) #[.map (some W2.heap.size)] 45,dI Tryd.prog 3 3 (.int .i64 0) W2.heap.size ord (fun x=> .int .i64 (plM 0 ord x)),.blk W3.heap.size #[.slice (some ⟨gq,0,none⟩) ord.length cq] 40,.row w.heap.size 3 1 (.slice (some ⟨gq,0,none⟩) ord.length cq) ord.length (cat (ics ord)),.blk w.heap.size #[.int .i64 m,.slice (some ⟨pb,po,none⟩) os.length c] 36] W14 [.blk W11.heap.size #[.int .i64 (-1),.int .i64 ob.fields.length] 3,.blk wl8.heap.size #[.slice Bf ob.fields.length df,.bool ob.dead] 96,.blk W1.heap.size #[.slice Ao out.length co] 40,.row w.heap.size 3 1 (.slice A12 (out.length+2) c13) (out.length+2) (cat (ics (out++[-1,(ob.fields.length:Int)]))),.blk (W2.heap.size+1) #[.map (some W2.heap.size)] 45,dI Tryd.prog 3 3 (.int .i64 0) W2.heap.size ord (fun x=> .int .i64 (plM 0 ord x)),.blk W3.heap.size #[.slice (some ⟨gq,0,none⟩) ord.length cq] 40,.row w.heap.size 3 1 (.slice (some ⟨gq,0,none⟩) ord.length cq) ord.length (cat (ics ord)),.blk w.heap.size #[.int .i64 m,.slice (some ⟨pb,po,none⟩) os.length c] 36]:=K';replace HT:=zG T';replace Hr:=zG (Hr.move (by decide) K');replace Hfd:=zG (Hfd.move (by decide) K');replace hz:w.heap.size+1≤W14.heap.size:=Nat.le_trans (by simpa using hz) hs3;clear T' K';clear HNN;replace⟨HT,Hr,Hfd⟩:=sp2 (nd0 (HT.drop 0)) Hr.s Hfd.s;have h_:=HT.rz 5;go_upto_region 15 with fail;clear h_;obtain⟨T',K'⟩:=HT.put 1 0 (.slice A12 (out.length+2) c13) rfl;simp only[zC,zB,zA] at T' K';replace⟨HT,Hr,Hfd⟩:=sp2 (And.intro T' K') Hr.s Hfd.s;clear T' K';replace hz:=HT.zz hz;generalize W14.setCell ⟨W1.heap.size,0,none⟩ (.slice A12 (out.length+2) c13)=W15 at*;obtain⟨o1,ho1⟩:∃o1,out++[-1,(ob.fields.length:Int)]=o1:=⟨_,rfl⟩;have hol1:out.length+2=o1.length:=(by rw[←ho1];simp);have ht9:=HT.out;have p9Hr:=Hr.out;have p9Hfd:=Hfd.out;rw[ho1,hol1] at ht9 p9Hr p9Hfd;replace HT:=zG ht9;replace Hr:=zG p9Hr;replace Hfd:=zG p9Hfd;clear ht9 p9Hr p9Hfd;have HO1:=zG ho1;have hob1:o1.length≤2*roots.length+10*k+2:=(by omega);clear ho1 hol1;replace⟨HT,Hr,Hfd⟩:=sp2 (HT.perm (.trans (.trans (.trans (.trans (.trans (.cons _ (.cons _ (.cons _ (.cons _ (.cons _ (.swap _ _ _)))))) (.cons _ (.cons _ (.cons _ (.cons _ (.swap _ _ _)))))) (.cons _ (.cons _ (.cons _ (.swap _ _ _))))) (.cons _ (.cons _ (.swap _ _ _)))) (.cons _ (.swap _ _ _))) (.swap _ _ _))) Hr.s Hfd.s;replace⟨HT,Hr,Hfd⟩:=sp2 (HT.perm (.trans (.trans (.trans (.trans (.trans (.cons _ (.cons _ (.cons _ (.cons _ (.cons _ (.swap _ _ _)))))) (.cons _ (.cons _ (.cons _ (.cons _ (.swap _ _ _)))))) (.cons _ (.cons _ (.cons _ (.swap _ _ _))))) (.cons _ (.cons _ (.swap _ _ _)))) (.cons _ (.swap _ _ _))) (.swap _ _ _))) Hr.s Hfd.s;replace⟨HT,Hr,Hfd⟩:=sp2 (HT.perm (.trans (.trans (.trans (.trans (.trans (.cons _ (.cons _ (.cons _ (.cons _ (.cons _ (.swap _ _ _)))))) (.cons _ (.cons _ (.cons _ (.cons _ (.swap _ _ _)))))) (.cons _ (.cons _ (.cons _ (.swap _ _ _))))) (.cons _ (.cons _ (.swap _ _ _)))) (.cons _ (.swap _ _ _))) (.swap _ _ _))) Hr.s Hfd.s;replace⟨HT,Hr,Hfd⟩:=sp2 (HT.perm (.trans (.trans (.trans (.trans (.trans (.cons _ (.cons _ (.cons _ (.cons _ (.cons _ (.swap _ _ _)))))) (.cons _ (.cons _ (.cons _ (.cons _ (.swap _ _ _)))))) (.cons _ (.cons _ (.cons _ (.swap _ _ _))))) (.cons _ (.cons _ (.swap _ _ _)))) (.cons _ (.swap _ _ _))) (.swap _ _ _))) Hr.s Hfd.s;replace⟨HT,Hr,Hfd⟩:=sp2 (HT.perm (.trans (.trans (.trans (.trans (.trans (.cons _ (.cons _ (.cons _ (.cons _ (.cons _ (.swap _ _ _)))))) (.cons _ (.cons _ (.cons _ (.cons _ (.swap _ _ _)))))) (.cons _ (.cons _ (.cons _ (.swap _ _ _))))) (.cons _ (.cons _ (.swap _ _ _)))) (.cons _ (.swap _ _ _))) (.swap _ _ _))) Hr.s Hfd.s;replace⟨HT,Hr,Hfd⟩:=sp2 (HT.perm (.trans (.trans (.trans (.trans (.trans (.cons _ (.cons _ (.cons _ (.cons _ (.cons _ (.swap _ _ _)))))) (.cons _ (.cons _ (.cons _ (.cons _ (.swap _ _ _)))))) (.cons _ (.cons _ (.cons _ (.swap _ _ _))))) (.cons _ (.cons _ (.swap _ _ _)))) (.cons _ (.swap _ _ _))) (.swap _ _ _))) Hr.s Hfd.s;have h_:=HT.rz 5;go_wp2_with fail;go_loopw [50] (fun i wl16=>∃(q:Nat) (Ao:Option Addr) (co:Nat) (Aq:Option Addr) (cq:Nat),(fun R9:List Res=>i= .int .i64 q∧q≤ob.fields.length∧St w.heap.size w wl16 R9∧aj obE wl16 (Fr 0 R9) (.slice (some ⟨pb,po,none⟩) os.length c) os∧aj vE wl16 (Fr 0 R9) (.slice Bf ob.fields.length df) ob.fields∧w.heap.size+1≤wl16.heap.size) [.blk W1.heap.size #[.slice Ao (cB o1 ord (ob.fields.take q)).length co] 40,.row w.heap.size 3 1 (.slice Ao (cB o1 ord (ob.fields.take q)).length co) ((cB o1 ord (ob.fields.take q)).length) (cat (ics (cB o1 ord (ob.fields.take q)))),.blk (W2.heap.size+1) #[.map (some W2.heap.size)] 45,dI Tryd.prog 3 3 (.int .i64 0) W2.heap.size (aZ ord (ob.fields.take q)) (fun x=> .int .i64 (plM 0 (aZ ord (ob.fields.take q)) x)),.blk W3.heap.size #[.slice Aq (aZ ord (ob.fields.take q)).length cq] 40,.row w.heap.size 3 1 (.slice Aq (aZ ord (ob.fields.take q)).length cq) ((aZ ord (ob.fields.take q)).length) (cat (ics (aZ ord (ob.fields.take q)))),.blk wl8.heap.size #[.slice Bf ob.fields.length df,.bool ob.dead] 96,.blk w.heap.size #[.int .i64 m,.slice (some ⟨pb,po,none⟩) os.length c] 36]) (fun i _=>ob.fields.length - (intOf i).toNat)
      case atStart=>
       refine⟨0,A12,c13,some ⟨gq,0,none⟩,cq,?_,?_,HT.out,Hr.out,Hfd.out,hz⟩
       ·rfl
       ·exact Nat.zero_le _
      case round=>
       generalize wr=wl16 at*;clear HT Hr Hfd hz;obtain⟨q,Ao,co,Aq,cq,rfl,hq,ht,pHr,pHfd,hz⟩:=hrel;have HT:=zG ht;have Hr:Hid (aj obE wl16 (Fr 0 [.blk W1.heap.size #[.slice Ao (cB o1 ord (ob.fields.take q)).length co] 40,.row w.heap.size 3 1 (.slice Ao (cB o1 ord (ob.fields.take q)).length co) ((cB o1 ord (ob.fields.take q)).length) (cat (ics (cB o1 ord (ob.fields.take q)))),.blk (W2.heap.size+1) #[.map (some W2.heap.size)] 45,dI Tryd.prog 3 3 (.int .i64 0) W2.heap.size (aZ ord (ob.fields.take q)) (fun x=> .int .i64 (plM 0 (aZ ord (ob.fields.take q)) x)),.blk W3.heap.size #[.slice Aq (aZ ord (ob.fields.take q)).length cq] 40,.row w.heap.size 3 1 (.slice Aq (aZ ord (ob.fields.take q)).length cq) ((aZ ord (ob.fields.take q)).length) (cat (ics (aZ ord (ob.fields.take q)))),.blk wl8.heap.size #[.slice Bf ob.fields.length df,.bool ob.dead] 96,.blk w.heap.size #[.int .i64 m,.slice (some ⟨pb,po,none⟩) os.length c] 36]) (.slice (some ⟨pb,po,none⟩) os.length c) os):=zG pHr;have Hfd:Hid (aj vE wl16 (Fr 0 [.blk W1.heap.size #[.slice Ao (cB o1 ord (ob.fields.take q)).length co] 40,.row w.heap.size 3 1 (.slice Ao (cB o1 ord (ob.fields.take q)).length co) ((cB o1 ord (ob.fields.take q)).length) (cat (ics (cB o1 ord (ob.fields.take q)))),.blk (W2.heap.size+1) #[.map (some W2.heap.size)] 45,dI Tryd.prog 3 3 (.int .i64 0) W2.heap.size (aZ ord (ob.fields.take q)) (fun x=> .int .i64 (plM 0 (aZ ord (ob.fields.take q)) x)),.blk W3.heap.size #[.slice Aq (aZ ord (ob.fields.take q)).length cq] 40,.row w.heap.size 3 1 (.slice Aq (aZ ord (ob.fields.take q)).length cq) ((aZ ord (ob.fields.take q)).length) (cat (ics (aZ ord (ob.fields.take q)))),.blk wl8.heap.size #[.slice Bf ob.fields.length df,.bool ob.dead] 96,.blk w.heap.size #[.int .i64 m,.slice (some ⟨pb,po,none⟩) os.length c] 36]) (.slice Bf ob.fields.length df) ob.fields):=zG pHfd;clear ht pHr pHfd;have ho9:=nD (ob.fields.take q) o1 ord;have hq9:=(nY (l:=ob.fields.take q) HI.told (fun v hv=>HFR.out v (List.mem_of_mem_take hv))).len;rw[List.length_take,Nat.min_eq_left hq] at ho9;have HO9:=zG ho9;clear ho9;have h_:=HT.rz 4;by_cases hqt:q<ob.fields.length
       ·obtain⟨x,hx⟩:∃x,ob.fields[q]?=some x:=⟨_,zD hqt⟩;obtain⟨fb,fo,rfl,-,-,y0,y1⟩:=Hfd.at_v hx;have HX:=zG hx;have i5:(q:Int)<(ob.fields.length:Int):=(by omega);clear hx;clear h_;have h_:=HT.rz 4;go_upto_region 18 with fail;clear y0 y1;replace⟨HT,Hr,Hfd⟩:=sp2 (HT.new' #[.int .i64 x.k,.int .i64 x.n] 47 wl16.heap.size) Hr.s Hfd.s;replace hz:=HT.zz hz;clear h_;generalize (wl16.alloc (.cells #[.int .i64 x.k,.int .i64 x.n] 47))=W17 at*;have h_:=HT.rz 4;go_wp2_with fail;replace⟨HT,Hr,Hfd⟩:=sp2 (HT.perm (.trans (.trans (.trans (.trans (.trans (.cons _ (.cons _ (.cons _ (.cons _ (.cons _ (.swap _ _ _)))))) (.cons _ (.cons _ (.cons _ (.cons _ (.swap _ _ _)))))) (.cons _ (.cons _ (.cons _ (.swap _ _ _))))) (.cons _ (.cons _ (.swap _ _ _)))) (.cons _ (.swap _ _ _))) (.swap _ _ _))) Hr.s Hfd.s;replace⟨HT,Hr,Hfd⟩:=sp2 (HT.perm (.trans (.trans (.trans (.trans (.trans (.cons _ (.cons _ (.cons _ (.cons _ (.cons _ (.swap _ _ _)))))) (.cons _ (.cons _ (.cons _ (.cons _ (.swap _ _ _)))))) (.cons _ (.cons _ (.cons _ (.swap _ _ _))))) (.cons _ (.cons _ (.swap _ _ _)))) (.cons _ (.swap _ _ _))) (.swap _ _ _))) Hr.s Hfd.s;replace⟨HT,Hr,Hfd⟩:=sp2 (HT.perm (.trans (.trans (.trans (.trans (.trans (.cons _ (.cons _ (.cons _ (.cons _ (.cons _ (.swap _ _ _)))))) (.cons _ (.cons _ (.cons _ (.cons _ (.swap _ _ _)))))) (.cons _ (.cons _ (.cons _ (.swap _ _ _))))) (.cons _ (.cons _ (.swap _ _ _)))) (.cons _ (.swap _ _ _))) (.swap _ _ _))) Hr.s Hfd.s;replace⟨HT,Hr,Hfd⟩:=sp2 (HT.perm (.trans (.trans (.trans (.trans (.trans (.cons _ (.cons _ (.cons _ (.cons _ (.cons _ (.swap _ _ _)))))) (.cons _ (.cons _ (.cons _ (.cons _ (.swap _ _ _)))))) (.cons _ (.cons _ (.cons _ (.swap _ _ _))))) (.cons _ (.cons _ (.swap _ _ _)))) (.cons _ (.swap _ _ _))) (.swap _ _ _))) Hr.s Hfd.s;replace⟨HT,Hr,Hfd⟩:=sp2 (HT.perm (.trans (.trans (.trans (.trans (.trans (.cons _ (.cons _ (.cons _ (.cons _ (.cons _ (.swap _ _ _)))))) (.cons _ (.cons _ (.cons _ (.cons _ (.swap _ _ _)))))) (.cons _ (.cons _ (.cons _ (.swap _ _ _))))) (.cons _ (.cons _ (.swap _ _ _)))) (.cons _ (.swap _ _ _))) (.swap _ _ _))) Hr.s Hfd.s;replace⟨HT,Hr,Hfd⟩:=sp2 (HT.perm (.trans (.trans (.trans (.trans (.trans (.cons _ (.cons _ (.cons _ (.cons _ (.cons _ (.swap _ _ _)))))) (.cons _ (.cons _ (.cons _ (.cons _ (.swap _ _ _)))))) (.cons _ (.cons _ (.cons _ (.swap _ _ _))))) (.cons _ (.cons _ (.swap _ _ _)))) (.cons _ (.swap _ _ _))) (.swap _ _ _))) Hr.s Hfd.s;refine(say_any w.heap.size w W17 [.blk wl16.heap.size #[.int .i64 x.k,.int .i64 x.n] 47,.blk wl8.heap.size #[.slice (some ⟨fb,fo,none⟩) ob.fields.length df,.bool ob.dead] 96,.blk w.heap.size #[.int .i64 m,.slice (some ⟨pb,po,none⟩) os.length c] 36] W1.heap.size (W2.heap.size+1) W3.heap.size W2.heap.size Ao Aq co cq (cB o1 ord (ob.fields.take q)) (aZ ord (ob.fields.take q)) x (fun hk=>by have:=HFR.out x (zF HX.out) hk;omega) (by rw[HO9.out];omega) (by omega) HT.out).mono ?_;rintro en W18 ⟨rfl,Ao',co',Aq',cq',hT,hK,hs⟩;clear h_;have K':=hK;replace HT:=zG hT;replace Hr:=zG (Hr.move (by decide) K');replace Hfd:=zG (Hfd.move (by decide) K');replace hz:w.heap.size+1≤W18.heap.size:=Nat.le_trans hz hs;clear K' hK hT hs;replace⟨HT,Hr,Hfd⟩:=sp2 (nd6 (HT.drop 6)) Hr.s Hfd.s;have h_:=HT.rz 3;go_wp2_with fail;obtain⟨e1,e2⟩:=say_take HX.out o1 ord;have ht9:=HT.out;have p9Hr:=Hr.out;have p9Hfd:=Hfd.out;rw[←e1,←e2] at ht9 p9Hr p9Hfd;replace HT:=zG ht9;replace Hr:=zG p9Hr;replace Hfd:=zG p9Hfd;clear ht9 e1 e2 p9Hr p9Hfd;clear h_;go_roundw
        case rel=>
         refine⟨q+1,Ao',co',Aq',cq',?_,?_,HT.out,Hr.out,Hfd.out,hz⟩
         ·go_num
         ·omega
        case measure=>simp[intOf];omega
       ·have hqq:q=ob.fields.length:=(by omega);subst hqq;have ht9:=HT.out;have hr9:=Hr.out;rw[List.take_length] at ht9 hr9;replace HT:=zG ht9;replace Hr:=zG hr9;clear ht9 hr9 Hfd hq hqt HO9 hq9;have i6:¬(ob.fields.length:Int)<(ob.fields.length:Int):=(by omega);have hn9:=HN.out;rw[HFO.out,HO1.out] at hn9;replace HN:=zG hn9;clear hn9;clear h_;have h_:=HT.rz 4;go_wp2_with fail;clear h_;replace⟨HT,Hr⟩:=sp1 (nd6 (HT.drop 6)) Hr.s;have h_:=HT.rz 3;clear h_;go_roundw
        case rel=>
         refine⟨k+1,cB o1 ord ob.fields,aZ ord ob.fields,Ao,co,Aq,cq,?_,HN.out,HT.out,Hr.out,hz⟩
         ·go_num
        case measure=>simp[intOf];omega
    ·have hF:=HI.done hlt;have i4:¬(k:Int)<(ord.length:Int):=(by omega);go_wp2_with fail;go_ret
     rw[←hF];exact⟨_,_,rfl,HT.iM (E:=iE) (n:=w.heap.size) 1 rfl rfl rfl (ics_held out) (by show out.length*8≤_;omega) (Nat.le_refl _) (by decide),HT.below⟩
end
end Go.Proofs.YtdmocjnjbihloaaDoor
