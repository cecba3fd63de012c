/- The walk of the function that heap.reach makes: what a row of values adds to what is told. No condition beside what is read. The walk of heap.Transfer's second closure: a value as it stands in the other heap. Condition: the map tells the new places. Plain laws of what a transfer answers: places of what is carried, and what is there while it is carried. No condition; no run. The walks of slices.IndexFunc and slices.ContainsFunc on numbers, and of the function that heap.Transfer hands to it. Condition: the function answers at the numbers of the list. The walk of the heap's own reckoning of what values lead to. No condition beside what is read, and that references are places of objects. The walk of the document's has: is a number in a list? No condition beside what is read. The walk of the document's reckoning of what values lead to, row by row. No condition beside what is read, that references are places of objects, and that an object has few fields. -/
import Derived.Test.YtdmocjnjbihloaaDoorActCopy
import Derived.Test.YtdmocjnjbihloaaDoorSpecE
import Derived.Test.YtdmocjnjbihloaaDoorGet
import Derived.Deep.CutRange
import Derived.Test.YtdmocjnjbihloaaDoorHeapB
import Derived.Test.YtdmocjnjbihloaaDoorConcatV
import Derived.Test.YtdmocjnjbihloaaDoorCloneH
namespace Go.Proofs.YtdmocjnjbihloaaDoor
section
open Go.RowKit
theorem infoI:(Tryd.prog.info? 3).map (fun i=>(i.zero,i.size,i.bytes))=some (some (.int .i64 0),1,8):=by kernel_rfl
theorem zeroB (w:World):(zeroValue 4).run Tryd.prog w= .ok (.bool false) w:=by kernel_rfl
theorem plainB (x:Bool):Go.plainElem (H:=Unit) Tryd.prog 4 (.bool x)=some (.lit (.bool x),[]):=plainElem_bool Tryd.underlying4 x
theorem wf60 {i:Int} (h:0≤i∧i<60):(Lit.int .i64 i).wf=true:=WalkArith.wf_i64 (by omega)
structure Kept2 (base b1 b2:Nat) (w w':World):Prop where
 old:∀b,b<base→b≠b1→b≠b2→w'.heap[b]?=w.heap[b]?
 size:w.heap.size≤w'.heap.size
theorem Kept2.refl {base b1 b2:Nat} {w:World}:Kept2 base b1 b2 w w:=⟨fun _ _ _ _=>rfl,Nat.le_refl _⟩
theorem Kept2.trans {base b1 b2:Nat} {w w' w2:World} (h:Kept2 base b1 b2 w w') (h':Kept2 base b1 b2 w' w2):Kept2 base b1 b2 w w2:=
 ⟨fun b h1 h2 h3=>(h'.old b h1 h2 h3).trans (h.old b h1 h2 h3),Nat.le_trans h.size h'.size⟩
set_option maxRecDepth 100000 in
set_option maxHeartbeats 4000000 in
theorem come_any (K:Nat) (hK:K≤60) (l:List V) (R:Option Addr) (d:Nat) (S:Nat→Prop) (w:World) (B bs bo bm base:Nat) (out:List Int) (v:Value)
  (hl:aj vE w S (.slice R l.length d) l) (hr:kH K l) (ht:Told K out)
  (hL:dD w [(bs,#[.map (some bm)],147),(bo,#[v],40)])
  (hm:jb Tryd.prog 3 4 (.bool false) w bm out.length (fun i=> .bool (decide (i∈out))))
  (ho:w.ownsRow base 3 1 v out.length (out.map (.int .i64)))
  (hS:∀b,S b→b<base∧b≠bo∧b≠bm) (h1:bs<base) (h2:bo<base) (h3:bm<base) (h4:base≤w.heap.size) (h5:bs≠bo) (h6:bs≠bm) (h7:bo≠bm) (h8:B≤bo) (h9:B≤bm):
  Calls Tryd.prog 85 #[.slice R l.length d,.pointer (some ⟨bs,0,none⟩),.pointer (some ⟨bo,0,none⟩)] w fun e w'=>e= .returned (.tuple #[])∧∃v',
   dD w' [(bs,#[.map (some bm)],147),(bo,#[v'],40)]∧
   jb Tryd.prog 3 4 (.bool false) w' bm (come out l).length (fun i=> .bool (decide (i∈come out l)))∧
   w'.ownsRow base 3 1 v' (come out l).length ((come out l).map (.int .i64))∧Kept2 base bo bm w w'∧Below B w w':=by
 obtain⟨-,g1,g2,g3⟩:=hl.fw;have H3:l.length*16≤140737488355328:=g3;obtain⟨i0,hi0,hz0,hz1,hz2⟩:=info_parts infoI;have Hl:=zG hl;have HrR:=zG hr;have Ht:=zG ht;have HL:=zG hL;have Hm:=zG hm;have Ho:=zG ho;have HS:=zG hS;clear hl hr ht hL hm ho hS g3;go_enter Tryd.func85,Tryd.ntmps85
 go_wp2
 go_loopw [8] (fun i wr=>∃(k:Nat) (v':Value) (o:List Int),k≤l.length∧i= .int .i64 k∧o=come out (l.take k)∧
   dD wr [(bs,#[.map (some bm)],147),(bo,#[v'],40)]∧
   jb Tryd.prog 3 4 (.bool false) wr bm o.length (fun i=> .bool (decide (i∈o)))∧
   wr.ownsRow base 3 1 v' o.length (o.map (.int .i64))∧Kept2 base bo bm w wr∧Below B w wr) (fun i _=>l.length - (intOf i).toNat)
 case atStart=>exact⟨0,v,out,by omega,rfl,by simp[come],HL.out,Hm.out,Ho.out,.refl,Below.refl _ _⟩
 case round=>
  obtain⟨k,v',o,hk,rfl,hoc,hloc,hmv,hown,hkp,hb⟩:=hrel;have hsz:=hkp.size;have hto:Told K o:=(by rw[hoc];exact Ht.come (fun x hx=>HrR.out x (List.mem_of_mem_take hx)));have holen:=hto.len;by_cases hlt:k<l.length
  ·obtain⟨x,hx⟩:∃x,l[k]?=some x:=⟨l[k],zD hlt⟩;have hlr:aj vE wr S (.slice R l.length d) l:=Hl.keep (by decide) (fun b _ hS=>⟨hS,hkp.old b (HS.out b hS).1 (HS.out b hS).2.1 (HS.out b hS).2.2⟩);obtain⟨b,p,rfl,_,hbs,y0,y1⟩:=hlr.at_v hx;have hct:=come_take out hx;rw[←hoc] at hct;have i1:(0:Int)≤(k:Int):=(by omega);have i2:(k:Int)<(l.length:Int):=(by omega);obtain⟨kk,hkk⟩:∃kk,kk=x.k:=⟨_,rfl⟩;rw[←hkk] at y0;have hbA:=hb.alloc (by omega) (.cells #[.int .i64 kk,.int .i64 x.n] 47);have HlocA:=zG (hloc.alloc (.cells #[.int .i64 kk,.int .i64 x.n] 47));have HmvA:=zG (hmv.keep (w':=wr.alloc (.cells #[.int .i64 kk,.int .i64 x.n] 47)) (Below.heap_alloc _ _ _ hmv.lt));have HownA:=zG (hown.alloc (.cells #[.int .i64 kk,.int .i64 x.n] 47));have HkpA:=zG (hkp.trans (w2:=wr.alloc (.cells #[.int .i64 kk,.int .i64 x.n] 47)) ⟨fun b hb' _ _=>Below.heap_alloc _ _ _ (by omega),by simp⟩);have HX:=zG hx;have Hct:=zG hct;have Hto:=zG hto;have HlocN:=zG (hloc.new (cs:=#[.int .i64 kk,.int .i64 x.n]) (t:=47) rfl);have z0:bs<wr.heap.size:=(by omega);have z1:bo<wr.heap.size:=(by omega);have hrx:=HrR.out x (zF hx);obtain⟨r0,q0,r1,q1,-⟩:=hloc.rules;clear hoc hloc hmv hown hkp hlr hx hct hto;have Hkk:=zG hkk;clear hkk;by_cases hk2:kk=2
   ·subst hk2;have hwf:=wf60 (i:=x.n) (by have:=hrx Hkk.symm;omega);have hrun:=HmvA.lookup (.inl Tryd.underlying4) Tryd.underlying3 Tryd.underlying147 (zeroB _) hwf;by_cases hin:x.n∈o
    ·have hin':decide (x.n∈o)=true:=(by simpa using hin);rw[hin'] at hrun;go_wp2
     go_roundw
     case rel=>
      refine⟨k+1,v',o,by omega,by go_num,?_,HlocA.out,HmvA.out,HownA.out,HkpA.out,hbA⟩;rw[Hct.out,if_neg (by simp[fresh,hin])]
     case measure=>simp[intOf];omega
    ·have hin':decide (x.n∈o)=false:=(by simpa using hin);rw[hin'] at hrun;go_wp2_with (at_mapUpdate;go_loud (refine jW _ rfl _ _ _ 147 rfl 3 4 (.bool false) bm o.length _ Tryd.underlying3 Tryd.underlying147 rfl HmvA.out (by unfold maxLen;omega) x.n (.bool true) rfl rfl hwf _ (plainB true) ?next))
     case next=>
      intro w2 hm2 hg2;have hb2:Below B w w2:=hbA.grown hg2 (by simp;omega) (fun g hg=>by cases hg;exact h9);have hzw2:wr.heap.size<w2.heap.size:=(by have:=hg2.size;simp at this;omega);have L2:=HlocN.grown hg2 (fun e he=>by simp at he;rcases he with rfl|rfl|rfl<;>simp<;>omega)
      have hown2:=fH HownA.out (Nat.le_refl _) (fun b hb'=>hg2.block b (dJ HownA.out hb').1 (fun e=>by injection e with e;have:=(dJ HownA.out hb').2;omega));have hkp2:=HkpA.trans (w2:=w2) ⟨fun b hb' _ hne=>hg2.block b (by simp;omega) (by simpa using hne),hg2.size⟩;have HL2:=zG L2;have Hown2:=zG hown2;have Hm2:=zG hm2;have Hkp2:=zG hkp2;obtain⟨r2,q2,r3,q3,r4,q4,-⟩:=L2.rules;clear L2 hown2 hm2 hkp2 hg2 r0 q0 r1 q1;go_wp2_with (at_builtin;go_loud (refine wpList_append_own _ rfl (.tmp 25) (.tmp 28) _ rfl base 3 i0 _ 1 8 Tryd.underlying40 hi0 hz0 hz1 hz2 rfl (by omega) _ o.length (o.map (.int .i64)) rfl (Hown2.alloc _) ⟨w2.heap.size,0,none⟩ 1 1 [.int .i64 x.n] rfl rfl (World.news_of_block (cs:=#[.int .i64 x.n]) (t:=3) (fr:=(0,0)) (heap_alloc_new w2 _)) (by simp[Value.oneCell']) (by unfold maxLen;omega) (by omega) (by simp;omega) ?next))
      case next=>
       intro v5 w5 hown5 hgr5 _;obtain⟨A5,c5,rfl⟩:=bZ hown5;have hz5:w2.heap.size<w5.heap.size:=(by have:=hgr5.size;simp at this;omega);have hvb:∀g,v'.ownBlock=some g→base≤g:=fun g hg=>(dJ Hown2.out hg).2;have L5:=((HL2.tail).alloc _).grown hgr5 (fun e he=>fun e'=>by
        have h1':=hvb _ e';simp at he
        rcases he with rfl|rfl
        ·simp at h1';omega
        ·simp at h1';omega)
       have hb5:Below B w w5:=(hb2.alloc (by omega) _).grown hgr5 (by simp;omega) (fun g hg=>by have:=hvb g hg;omega);have hm5:=Hm2.keep (w':=w5) ((hgr5.block bm (by simp;omega) (fun e=>by have:=hvb bm e.symm;omega)).trans (Below.heap_alloc _ _ _ (by omega)));have hkp5:=Hkp2.trans (w2:=w5) ⟨fun b hb' _ _=>(hgr5.block b (by simp;omega) (fun e=>by have:=hvb b e.symm;omega)).trans (Below.heap_alloc _ _ _ (by omega)),by omega⟩;have HL5:=zG L5;have Hown5:=zG hown5;have Hm5:=zG hm5;have Hkp5:=zG hkp5;obtain⟨r0,q0,r1,q1,-⟩:=L5.rules;clear L5 hown5 hm5 hkp5 hgr5 hvb r2 q2 r3 q3 r4 q4;go_wp2
       have L6:=HL5.set 1 rfl (by intro j e hj hne;match j,hj with|0,hj=>(cases hj;exact h5)|1,_=>exact absurd rfl hne) 0 (.slice A5 (o.length+1) c5);have hown6:=ownsRow_setCell_below (a:=⟨bo,0,none⟩) Hown5.out h2 (.slice A5 (o.length+1) c5);go_roundw
       case rel=>
        have hfr:fresh o x=true:=(by simp[fresh,hin,Hkk.symm]);refine⟨k+1,.slice A5 (o.length+1) c5,o++[x.n],by omega,by go_num,by rw[Hct.out,if_pos hfr],L6,?_,?_,Hkp5.trans ⟨fun b _ hne _=>Below.heap_setCell _ _ _ _ hne,by simp[World.setCell]⟩,hb5.setCell h8 _⟩
        ·refine((Hm5.keep (Below.heap_setCell _ _ _ _ (Ne.symm h7))).congr (fun i _=>?_)).mono (by simp);by_cases hix:i=x.n<;>simp[hix]
        ·simpa using hown6
       case measure=>simp[intOf];omega
   ·have hk2':(kk==2)=false:=(by simpa using hk2);go_wp2
    go_roundw
    case rel=>
     refine⟨k+1,v',o,by omega,by go_num,?_,HlocA.out,HmvA.out,HownA.out,HkpA.out,hbA⟩;rw[Hct.out,if_neg (by simp[fresh,←Hkk.out,hk2])]
    case measure=>simp[intOf];omega
  ·have hkk:k=l.length:=(by omega);have hx:l.take k=l:=List.take_of_length_le (by omega);rw[hx] at hoc;subst hoc;have Hloc:=zG hloc;have Hmv:=zG hmv;have Hown:=zG hown;have Hkp:=zG hkp;subst hkk;clear hloc hmv hown hkp hx hto holen;go_wp2
   go_end0
   exact⟨rfl,v',Hloc.out,Hmv.out,Hown.out,Hkp.out,hb⟩
end
section
open Go.RowKit
theorem zeroI (w:World):(zeroValue 3).run Tryd.prog w= .ok (.int .i64 0) w:=by kernel_rfl
def aI (g:Int→Int) (x:V):V:=if x.k=2 then ⟨2,g x.n⟩ else x
set_option maxHeartbeats 1000000 in
theorem sw (g:Int→Int) (bm b cnt:Nat) (x:V) (w:World) (hc:w.cell? ⟨bm,0,none⟩=some (.map (some b))) (hm:jb Tryd.prog 3 3 (.int .i64 0) w b cnt (fun k=> .int .i64 (g k))) (hw:x.k=2→0≤x.n∧x.n<60):
  Calls Tryd.prog 121 #[.agg #[.int .i64 x.k,.int .i64 x.n],.pointer (some ⟨bm,0,none⟩)] w fun e w'=>e= .returned (.agg #[.int .i64 (aI g x).k,.int .i64 (aI g x).n])∧Below w.heap.size w w':=by
 obtain⟨k,n⟩:=x;dsimp only at hw ⊢;have hbm:=lt_of_cell hc;have hB:Below w.heap.size w ((w.alloc (.cells #[.int .i64 k,.int .i64 n] 47)).alloc (.cells #[.int .i64 0,.int .i64 0] 47)):=((Below.refl _ _).alloc (Nat.le_refl _) _).alloc (by simp) _;have HL:=zG (((dD.nil (w:=w)).new (cs:=#[.int .i64 k,.int .i64 n]) (t:=47) rfl).new (cs:=#[.int .i64 0,.int .i64 0]) (t:=47) (n:=w.heap.size+1) (by simp));have hc2:=(hB.cell (p:=⟨bm,0,none⟩) hbm).trans hc;have hm2:=hm.keep (hB.block _ hm.lt);have hz2:((w.alloc (.cells #[.int .i64 k,.int .i64 n] 47)).alloc (.cells #[.int .i64 0,.int .i64 0] 47)).heap.size=w.heap.size+1+1:=(by simp);by_cases hk:k=2
 ·subst hk;obtain⟨n1,n2⟩:=hw rfl;have hrun:=hm2.lookup (.inr ⟨_,Tryd.underlying3⟩) Tryd.underlying3 Tryd.underlying45 (zeroI _) (wf60 ⟨n1,n2⟩);have hv:aI g ⟨2,n⟩=⟨2,g n⟩:=if_pos rfl;rw[hv];clear hc hm hm2 hw;go_enter Tryd.func121,Tryd.ntmps121
  go_upto_region 1 with fail;generalize (w.alloc (.cells #[.int .i64 2,.int .i64 n] 47)).alloc (.cells #[.int .i64 0,.int .i64 0] 47)=W at*;obtain⟨r3,q3,r2,q2,-⟩:=HL.rules;dsimp only at r3 q3 r2 q2;go_upto_region 3 with fail;have HL2:=zG (HL.put 1 1 (.int .i64 (g n)) rfl (by simp<;>omega))
  have hB2:Below w.heap.size w (W.setCell ⟨w.heap.size,1,none⟩ (.int .i64 (g n))):=hB.setCell (p:=⟨w.heap.size,1,none⟩) (Nat.le_refl _) _;clear r3 q3 r2 q2;generalize W.setCell ⟨w.heap.size,1,none⟩ (.int .i64 (g n))=W2 at*;obtain⟨r3,q3,r2,q2,-⟩:=HL2.rules;simp only[zC,zB,zA] at r3 q3 r2 q2;go_wp2_with fail;have L3:=HL2.set2 0 (.int .i64 2) (.int .i64 (g n)) rfl rfl (by simp<;>omega)
  obtain⟨s3,-⟩:=L3.rules;simp only at s3;refine bodyPost_ret (v:= .agg #[.int .i64 2,.int .i64 (g n)]) (by simp[results,Tryd.results121,go_sem,s3]) rfl ⟨rfl,fF hB2 (by omega)⟩
 ·have hkb:(k==2)=false:=(by simpa using hk);have hv:aI g ⟨k,n⟩=⟨k,n⟩:=if_neg hk;rw[hv];clear hc hm hm2 hw hk;go_enter Tryd.func121,Tryd.ntmps121
  go_upto_region 1 with fail;generalize (w.alloc (.cells #[.int .i64 k,.int .i64 n] 47)).alloc (.cells #[.int .i64 0,.int .i64 0] 47)=W at*;obtain⟨r3,q3,r2,q2,-⟩:=HL.rules;dsimp only at r3 q3 r2 q2;go_wp2_with fail;have L3:=HL.set2 0 (.int .i64 k) (.int .i64 n) rfl rfl (by simp<;>omega)
  obtain⟨s3,-⟩:=L3.rules;simp only at s3;refine bodyPost_ret (v:= .agg #[.int .i64 k,.int .i64 n]) (by simp[results,Tryd.results121,go_sem,s3]) rfl ⟨rfl,fF hB (by omega)⟩
end
section
open Go.RowKit
def plM (n:Nat) (l:List Int) (x:Int):Int:=if x∈l then(n:Int)+(l.idxOf x:Int) else 0
theorem plM_snoc {n:Nat} {l:List Int} {x:Int} (h:x∉l) (i:Int):plM n (l++[x]) i=if i=x then((n+l.length:Nat):Int) else plM n l i:=by
 unfold plM;by_cases hi:i=x
 ·subst hi;simp[List.idxOf_append,h]
 ·by_cases hm:i∈l
  ·simp[hi,hm,List.idxOf_append]
  ·simp[hi,hm]
theorem plM_at {n:Nat} {l:List Int} (hn:l.Nodup) {k:Nat} {x:Int} (hk:l[k]?=some x):plM n l x=((n+k:Nat):Int):=by
 obtain⟨hl,rfl⟩:=zE.1 hk;unfold plM;rw[if_pos (List.getElem_mem hl),hn.idxOf_getElem k hl];omega
theorem take_nodup {l:List Int} (hn:l.Nodup) {k:Nat} {x:Int} (hk:l[k]?=some x):x∉l.take k:=by
 obtain⟨hl,rfl⟩:=zE.1 hk;have h1:l.take (k+1)=l.take k++[l[k]]:=(by rw[List.take_add_one,zD hl];rfl);have h2:(l.take (k+1)).Nodup:=hn.sublist (List.take_sublist ..);rw[h1] at h2;have:=(List.nodup_append.1 h2).2.2;exact fun h=>this _ h _ (by simp) rfl
theorem plM_take {n:Nat} {l:List Int} (hn:l.Nodup) {k:Nat} {x:Int} (hk:l[k]?=some x) (i:Int):plM n (l.take (k+1)) i=if i=x then((n+k:Nat):Int) else plM n (l.take k) i:=by
 obtain⟨hl,he⟩:=zE.1 hk;have h1:l.take (k+1)=l.take k++[x]:=(by rw[List.take_add_one,hk];rfl);rw[h1,plM_snoc (take_nodup hn hk)];simp[Nat.min_eq_left (Nat.le_of_lt hl)]
def gW (fr tt:List Ob) (l:List Int) (k:Nat):List Ob:=
 tt++((l.take k).map (fun i=>⟨(fieldsOf fr i).map (aI (plM tt.length l)),false⟩)++List.replicate (l.length - k) ⟨[],false⟩)
theorem partC_zero (fr tt:List Ob) (l:List Int):gW fr tt l 0=tt++List.replicate l.length ⟨[],false⟩:=by simp[gW]
theorem rX {fr tt:List Ob} {l:List Int} {k:Nat} (h:k≤l.length):(gW fr tt l k).length=tt.length+l.length:=by
 simp[gW,Nat.min_eq_left h];omega
theorem partC_set {fr tt:List Ob} {l:List Int} {k:Nat} {x:Int} (hk:l[k]?=some x):
  (gW fr tt l k).set (tt.length+k) ⟨(fieldsOf fr x).map (aI (plM tt.length l)),false⟩=gW fr tt l (k+1):=by
 obtain⟨hl,he⟩:=zE.1 hk;unfold gW;rw[List.set_append_right _ _ (by omega),List.take_add_one,hk];have h1:tt.length+k - tt.length=k:=(by omega);have h3:l.length - k=(l.length - (k+1))+1:=(by omega);rw[h1,List.set_append_right _ _ (by simp[Nat.min_eq_left (Nat.le_of_lt hl)])];simp only[List.length_map,List.length_take,Nat.min_eq_left (Nat.le_of_lt hl),Nat.sub_self];rw[h3,List.replicate_succ,zB];simp
theorem nE {fr tt:List Ob} {l:List Int}:gW fr tt l l.length=tt++l.map (fun i=>⟨(fieldsOf fr i).map (aI (plM tt.length l)),false⟩):=by simp[gW]
def bN (os:List Ob) (l:List Int):List Ob:=os.mapIdx (fun i o=>if(i:Int)∈l then ⟨[],true⟩ else o)
theorem mi (os:List Ob):bN os []=os:=by
 apply List.ext_getElem?
 intro i;simp[bN,List.getElem?_mapIdx]
theorem gL (os:List Ob) (l:List Int):(bN os l).length=os.length:=by simp[bN]
theorem movedL_take {os:List Ob} {l:List Int} {k:Nat} {x:Int} (hk:l[k]?=some x) (h0:0≤x):(bN os (l.take k)).set x.toNat ⟨[],true⟩=bN os (l.take (k+1)):=by
 apply List.ext_getElem?
 intro i;rw[List.take_add_one,hk,List.getElem?_set];simp only[bN,List.getElem?_mapIdx,List.length_mapIdx,Option.toList_some,List.mem_append,List.mem_singleton];by_cases hi:x.toNat=i
 ·subst hi;have hx:((x.toNat:Nat):Int)=x:=(by omega);by_cases hl:x.toNat<os.length
  ·simp[hx,zD hl]
   omega
  ·simp[hl]
 ·have hx:¬(i:Int)=x:=(by omega);simp[hi,hx]
end
section
open Go.RowKit
def sF (F:Nat) (cap:Value) (w:World) (p:Int→Bool) (l:List Int):Prop:=
 ∀x∈l,∀(W:World),Below w.heap.size w W→Calls Tryd.prog F #[.int .i64 x,cap] W fun e W'=>e= .returned (.bool (p x))∧Below W.heap.size W W'
def FoundI (p:Int→Bool) (l:List Int) (w:World) (e:Ending) (w':World):Prop:=∃r:Int,e= .returned (.int .i64 r)∧decide (0≤r)=l.any p∧Below w.heap.size w w'
theorem sF.gives {F:Nat} {cap:Value} {w W:World} {p:Int→Bool} {l:List Int} (hf:sF F cap w p l) {x:Int} (hx:x∈l) (b:Bool) (hp:Hid (p x=b)) (hb:Below w.heap.size w W):
  Calls Tryd.prog F #[.int .i64 x,cap] W fun e W'=>e= .returned (.bool b)∧Below W.heap.size W W':=
 (hf x hx W hb).mono fun _ _ ⟨he,h⟩=>⟨by rw[he,hp.out],h⟩
set_option maxHeartbeats 400000 in
theorem uG (F:Nat) (cap:Value) (p:Int→Bool) (S:Nat→Prop) (A:Option Addr) (c:Nat) (l:List Int) (w:World) (hr:aj iE w S (.slice A l.length c) l) (hf:sF F cap w p l)
  (hen:∀(args:Array Value) (W:World),(callFunc F args).run Tryd.prog W= .ok (.enter F args) W):
  Calls Tryd.prog 122 #[.slice A l.length c,.func (.func F) #[] #[cap]] w (FoundI p l w):=by
 obtain⟨-,h1,h2,h3⟩:=hr.fw;have Hr:=zG hr;clear hr;go_enter Tryd.func122,Tryd.ntmps122
 go_wp2
 go_loopw [5,8] (fun _ i wr=>∃k:Nat,k≤l.length∧i= .int .i64 k∧(l.take k).any p=false∧Below w.heap.size w wr) (fun _ i _=>l.length - (intOf i).toNat)
 case atStart=>exact⟨0,by omega,rfl,by simp,Below.refl _ _⟩
 case round=>
  obtain⟨k,hk,rfl,hany,hb⟩:=hrel;by_cases hlt:k<l.length
  ·obtain⟨x,hx⟩:∃x,l[k]?=some x:=⟨l[k],zD hlt⟩;obtain⟨b,o,rfl,_,_,g0⟩:=(Hr.below (by decide) hb).at_i hx;have Hm:=zG (zF hx);have Hany:=zG hany;have Hx:=zG hx;clear hany hx
   cases hp:p x
   all_goals
    have Hp:=zG hp;clear hp;go_wp2_with (refine(hf.gives Hm.out _ Hp hb).mono ?_;rintro e w' ⟨rfl,hb1⟩)
   ·go_roundw
    case rel=>exact⟨k+1,by omega,by go_num,any_take_succ Hx.out Hany.out Hp.out,hb.trans (hb1.mono hb.size)⟩
    case measure=>simp[intOf];omega
   ·go_ret
    exact⟨_,rfl,by simp[any_at Hx.out Hp.out],hb.trans (hb1.mono hb.size)⟩
  ·have Hany:=zG hany;clear hany;go_wp2
   go_ret
   exact⟨_,rfl,by have:=Hany.out;rw[List.take_of_length_le (by omega)] at this;simp[this],hb⟩
set_option maxHeartbeats 400000 in
theorem mJ (F:Nat) (cap:Value) (p:Int→Bool) (S:Nat→Prop) (A:Option Addr) (c:Nat) (l:List Int) (w:World) (hr:aj iE w S (.slice A l.length c) l) (hf:sF F cap w p l)
  (hen:∀(args:Array Value) (W:World),(callFunc F args).run Tryd.prog W= .ok (.enter F args) W):
  Calls Tryd.prog 107 #[.slice A l.length c,.func (.func F) #[] #[cap]] w fun e w'=>e= .returned (.bool (l.any p))∧Below w.heap.size w w':=by
 have Hr:=zG hr;clear hr;go_enter Tryd.func107,Tryd.ntmps107
 go_wp2_with (refine(uG F cap p S A c l _ Hr.out hf hen).mono ?_;rintro e w' ⟨r,rfl,hd,hb⟩;have Hd:=zG hd;clear hd)
 go_ret
 exact⟨ret_bool Hd.out,hb⟩
def aV (os:List Ob) (x:Int):Bool:=match os[x.toNat]? with|some o=>o.dead|none=>false
theorem transfer1_any (m:Int) (S:Nat→Prop) (A:Option Addr) (c:Nat) (os:List Ob) (B:Nat) (w:World) (l:List Int) (h0:w.cell? ⟨B,0,none⟩=some (.int .i64 m)) (h1:w.cell? ⟨B,1,none⟩=some (.slice A os.length c)) (hr:aj obE w S (.slice A os.length c) os)
  (hl:∀x∈l,0≤x∧x<(os.length:Int)):sF 120 (.pointer (some ⟨B,0,none⟩)) w (aV os) l:=by
 intro x hx W hb;have hB:=lt_of_cell h0;have g0:W.cell? ⟨B,0,none⟩=some (.int .i64 m):=(hb.cell (p:=⟨B,0,none⟩) hB).trans h0;have g1:W.cell? ⟨B,1,none⟩=some (.slice A os.length c):=(hb.cell (p:=⟨B,1,none⟩) hB).trans h1;obtain⟨x1,x2⟩:=hl x hx;obtain⟨i,rfl⟩:=Int.eq_ofNat_of_zero_le x1;obtain⟨o,ho⟩:∃o,os[i]?=some o:=⟨_,zD (by omega)⟩;obtain⟨pb,po,B1,d1,rfl,_,_,y0,y1,_⟩:=(hr.below (by decide) hb).at_o ho;have hd:aV os (i:Int)=o.dead:=(by simp[aV,ho]);rw[hd];clear h0 h1 hb hB hr hl hx ho hd;go_enter Tryd.func120,Tryd.ntmps120
 go_wp2_with fail;go_ret
 exact⟨rfl,Below.refl _ _⟩
end
section
open Go.RowKit
structure RefsOk (os:List Ob) (roots:List V):Prop where
 few:os.length≤60
 fields:∀o∈os,kH os.length o.fields
 roots:kH os.length roots
theorem valB_refs {n:Nat} {l:List V} (h:l.all (fU n)=true):kH n l:=fun v hv hk=>qH (List.all_eq_true.1 h v hv) hk
theorem mF {m:Int} {os:List Ob} {roots:List V} (h:hpB ⟨m,os⟩ roots=true):RefsOk os roots:=by
 simp only[hpB,limB,Bool.and_eq_true,decide_eq_true_eq] at h;obtain⟨⟨⟨⟨h1,h2⟩,h3⟩,h4⟩,h5⟩:=h;refine⟨by omega,fun o ho=>?_,valB_refs h5⟩;have:=List.all_eq_true.1 h4 o ho;simp only[obB,Bool.and_eq_true] at this;exact valB_refs this.1.2
def Reached (w:World) (os:List Ob) (roots:List V) (en:Ending) (w':World):Prop:=
 ∃v l,en= .returned v∧Led os roots [] l∧Go.Proofs.YtdmocjnjbihloaaDoor.Told os.length l∧w'.ownsRow w.heap.size 3 1 v l.length (l.map (.int .i64))∧Below w.heap.size w w'
set_option maxRecDepth 100000 in
set_option maxHeartbeats 4000000 in
theorem rZ (m:Int) (S T:Nat→Prop) (A R:Option Addr) (c d:Nat) (os:List Ob) (roots:List V) (w:World) (hr:aj obE w S (.slice A os.length c) os) (hq:aj vE w T (.slice R roots.length d) roots) (hok:RefsOk os roots):
  Calls Tryd.prog 68 #[.agg #[.int .i64 m,.slice A os.length c],.slice R roots.length d] w (Reached w os roots):=by
 obtain⟨-,g1,g2,g3⟩:=hr.fw;have hr':aj obE w (fun b=>b<w.heap.size) (.slice A os.length c) os:=hr.keep (by decide) (fun b hb _=>⟨hb,rfl⟩);have hq':aj vE w (fun b=>b<w.heap.size) (.slice R roots.length d) roots:=hq.keep (by decide) (fun b hb _=>⟨hb,rfl⟩);have Hr:=zG hr';have Hq:=zG hq';have Hok:=zG hok;have hfew:=hok.few;have hB:Below w.heap.size w ((((w.alloc (.cells #[.int .i64 m,.slice A os.length c] 36)).alloc (.cells #[.slice none 0 0] 40)).alloc (.map #[] 0)).alloc (.cells #[.map (some (w.heap.size+1+1))] 147)):=
  ((((Below.refl _ _).alloc (Nat.le_refl _) _).alloc (by simp) _).alloc (by simp;omega) _).alloc (by simp;omega) _
 have L0:dD ((((w.alloc (.cells #[.int .i64 m,.slice A os.length c] 36)).alloc (.cells #[.slice none 0 0] 40)).alloc (.map #[] 0)).alloc (.cells #[.map (some (w.heap.size+1+1))] 147))
   [(w.heap.size+1+1+1,#[.map (some (w.heap.size+1+1))],147),(w.heap.size+1,#[.slice none 0 0],40),(w.heap.size,#[.int .i64 m,.slice A os.length c],36)]:=
  (((dD.nil.new rfl).new (by simp)).alloc _).new (by simp)
 have hM:jb Tryd.prog 3 4 (.bool false) ((((w.alloc (.cells #[.int .i64 m,.slice A os.length c] 36)).alloc (.cells #[.slice none 0 0] 40)).alloc (.map #[] 0)).alloc (.cells #[.map (some (w.heap.size+1+1))] 147)) (w.heap.size+1+1) 0 (fun i=> .bool (decide (i∈([]:List Int)))):=by
  have h1:=jb.made (P:=Tryd.prog) (kt:=3) (w:=(w.alloc (.cells #[.int .i64 m,.slice A os.length c] 36)).alloc (.cells #[.slice none 0 0] 40)) (plainB false);have h2:((w.alloc (.cells #[.int .i64 m,.slice A os.length c] 36)).alloc (.cells #[.slice none 0 0] 40)).heap.size=w.heap.size+1+1:=(by simp);rw[h2] at h1;exact(h1.keep (Below.heap_alloc _ _ _ (by simp))).congr (fun k _=>by simp)
 have HL0:=zG L0;have HM:=zG hM;clear hr hq hr' hq' hok g3 L0 hM;have hmm:=@run_makeMap Tryd.prog;go_enter Tryd.func68,Tryd.ntmps68
 go_wp2_with fail;refine(come_any os.length hfew roots R d (fun b=>b<w.heap.size) _ w.heap.size (w.heap.size+1+1+1) (w.heap.size+1) (w.heap.size+1+1) (w.heap.size+1+1+1+1) [] (.slice none 0 0) (Hq.below (by decide) hB) Hok.roots .nil
  HL0.keep2 HM.out ⟨rfl,.inl ⟨rfl,rfl⟩⟩ (fun b hb=>by omega) (by omega) (by omega) (by omega) (by simp) (by omega) (by omega) (by omega) (by omega) (by omega)).mono ?_
 rintro e w1 ⟨rfl,v1,hl1,hm1,ho1,hk1,hb1⟩;have hbb1:=hB.trans hb1;have hh1:w1.heap[w.heap.size]?=some (.cells #[.int .i64 m,.slice A os.length c] 36 (0,0)):=(hk1.old _ (by omega) (by omega) (by omega)).trans (HL0.at_ 2 rfl);have hz1:w.heap.size+1+1+1+1≤w1.heap.size:=(by have:=hk1.size;simp at this;omega);have ht1:Go.Proofs.YtdmocjnjbihloaaDoor.Told os.length (come [] roots):=Told.nil.come Hok.roots;have hled1:∀r,Led os (jV os ((come [] roots).drop 0)) (come [] roots) r→Led os roots [] r:=fun r h=>by
  have:=Led.row (os:=os) (l:=roots) (rest:=[]) (out:=[]) (nw:=come [] roots) (r:=r) (by simp) (by simpa using h);simpa using this
 have Hl1:=zG (dD.cons (e:=(w.heap.size,#[.int .i64 m,.slice A os.length c],36)) hh1 hl1);have Hm1:=zG hm1;have Ho1:=zG ho1;have Ht1:=zG ht1;have Hled1:=zG hled1;clear hl1 hm1 ho1 hk1 hb1 hB hh1 ht1 hled1;go_wp2_with fail;go_loopw [8] (fun i wr=>∃(k:Nat) (v:Value) (out:List Int),k≤out.length∧i= .int .i64 k∧Go.Proofs.YtdmocjnjbihloaaDoor.Told os.length out∧
   dD wr [(w.heap.size,#[.int .i64 m,.slice A os.length c],36),(w.heap.size+1+1+1,#[.map (some (w.heap.size+1+1))],147),(w.heap.size+1,#[v],40)]∧
   jb Tryd.prog 3 4 (.bool false) wr (w.heap.size+1+1) out.length (fun i=> .bool (decide (i∈out)))∧
   wr.ownsRow (w.heap.size+1+1+1+1) 3 1 v out.length (out.map (.int .i64))∧(∀r,Led os (jV os (out.drop k)) out r→Led os roots [] r)∧
   Below w.heap.size w wr∧w.heap.size+1+1+1+1≤wr.heap.size) (fun i _=>os.length - (intOf i).toNat)
 case atStart=>exact⟨0,v1,_,by omega,rfl,Ht1.out,Hl1.out,Hm1.out,Ho1.out,Hled1.out,hbb1,hz1⟩
 case round=>
  obtain⟨k,v,out,hk,rfl,htold,hloc,hmv,hown,hled,hb,hz⟩:=hrel;obtain⟨Av,cv,rfl⟩:=bZ hown;have holen:=htold.len;by_cases hlt:k<out.length
  ·obtain⟨g,rfl,hgb⟩:=jH hown (by omega);obtain⟨n,hn⟩:∃n,out[k]?=some n:=⟨out[k],zD hlt⟩;have hnw:=htold.within n (zF hn);obtain⟨j,rfl⟩:=Int.eq_ofNat_of_zero_le hnw.1;have hjl:j<os.length:=(by omega);obtain⟨o,ho⟩:∃o,os[j]?=some o:=⟨os[j],zD hjl⟩;have kc:wr.cell? ⟨g,k,none⟩=some (.int .i64 (j:Int)):=oJ hown (by simp[hn]);obtain⟨b,p,D,cd,rfl,hbS,hbs,y0,y1,hfl⟩:=(Hr.below (by decide) hb).at_o ho;have i1:(0:Int)≤(k:Int):=(by omega);have i2:(k:Int)<(out.length:Int):=(by omega);have j1:(0:Int)≤(j:Int):=(by omega);have j2:(j:Int)<(os.length:Int):=(by omega);have hfe:fieldsOf os (j:Int)=o.fields:=(by simp[fieldsOf,ho]);have hrf:kH os.length o.fields:=Hok.fields o (zF ho);obtain⟨r0,q0,r1,q1,r2,q2,-⟩:=hloc.rules;have Htold:=zG htold;have Hloc:=zG hloc;have Hmv:=zG hmv;have Hown:=zG hown;have Hled:=zG hled;have Hfl:=zG hfl;have Hn:=zG hn;have Hfe:=zG hfe;have Hrf:=zG hrf;clear htold hloc hmv hown hled hfl hn hfe hrf hnw ho;go_wp2_with fail;refine av [.still [0,1,2,3,4,5,6,7,8,9],.loud 10 []] (by kernel_rfl) (by kernel_rfl) ?_;refine ps_ ?_;repeat still_step
   refine zH ?_;refine pl_ ?_;go_wp2_with fail;refine(come_any os.length hfew o.fields D cd (fun b=>b<w.heap.size) _ w.heap.size (w.heap.size+1+1+1) (w.heap.size+1) (w.heap.size+1+1) (w.heap.size+1+1+1+1) out (.slice (some ⟨g,0,none⟩) out.length cv) (Hfl.below (by decide) (Below.refl _ _).drew) Hrf.out Htold.out
    Hloc.tail.drew (Hmv.keep rfl) Hown.out (fun b hb=>by omega) (by omega) (by omega) (by omega) (by show _≤wr.heap.size;omega) (by omega) (by omega) (by omega) (by omega) (by omega)).mono ?_
   rintro e w2 ⟨rfl,v2,hl2,hm2,ho2,hk2,hb2⟩;have hb3:=hb.drew.trans hb2;have hh2:w2.heap[w.heap.size]?=some (.cells #[.int .i64 m,.slice (some ⟨b,p,none⟩) os.length c] 36 (0,0)):=(hk2.old _ (by omega) (by omega) (by omega)).trans (Hloc.at_ 0 rfl);have hz2:w.heap.size+1+1+1+1≤w2.heap.size:=(by have h:=hk2.size;have h':wr.drew.heap.size=wr.heap.size:=rfl;omega);have Hl2:=zG (dD.cons (e:=(w.heap.size,#[.int .i64 m,.slice (some ⟨b,p,none⟩) os.length c],36)) hh2 hl2);have Hm2:=zG hm2;have Ho2:=zG ho2;clear hl2 hm2 ho2 hk2 hb2 hh2;go_wp2_with fail;refine⟨trivial,?_⟩;refine zI ?_;go_wp2
   go_roundw
   case rel=>
    obtain⟨nw,hnw⟩:=pg o.fields out;refine⟨k+1,v2,come out o.fields,by rw[hnw];simp;omega,by go_num,Htold.come Hrf.out,Hl2.out,Hm2.out,Ho2.out,fun r h=>Hled.out r ?_,hb3,hz2⟩;have hd:out.drop k=(j:Int)::out.drop (k+1):=by
     rw[List.drop_eq_getElem_cons hlt];congr 1
     have:=Hn.out;rw[zD hlt] at this;injection this
    rw[hd];have he:jV os ((j:Int)::out.drop (k+1))=o.fields++jV os (out.drop (k+1)):=(by simp[jV,Hfe.out]);rw[he];refine Led.row (nw:=nw) hnw ?_;rw[hnw] at h;rw[←qU,←List.drop_append_of_le_length (by omega)];exact h
   case measure=>simp[intOf];omega
  ·have hkk:k=out.length:=(by omega);subst hkk;obtain⟨r0,q0,r1,q1,r2,q2,-⟩:=hloc.rules;have hl:=hled out (by rw[List.drop_length];exact Led.done out);have Hown:=zG (fH hown (show w.heap.size≤w.heap.size+1+1+1+1 by omega) (fun _ _=>rfl));have Hl:=zG hl;have Htold:=zG htold;clear htold hloc hmv hown hled hl;go_wp2
   go_ret
   exact⟨_,out,rfl,Hl.out,Htold.out,Hown.out,hb⟩
end
section
open Go.RowKit
end
section
open Go.RowKit
def lenOf:Value→Nat
 | .slice _ n _=>n
 |_=>0
def RowS (n:Nat) (w:World) (b:Nat):Prop:=b<n∨∃cs,w.heap[b]?=some (.cells cs 47 (0,0))
theorem flatF_len {os:List Ob} (hs:∀o∈os,o.fields.length≤4):∀l:List Int,(jV os l).length≤4*l.length
 | []=>by simp[jV]
 |i::l=>by
  have ih:=flatF_len hs l;have h:(fieldsOf os i).length≤4:=by
   unfold fieldsOf;split
   ·rename_i o ho
    exact hs o (zF ho)
   ·simp
  have e:jV os (i::l)=fieldsOf os i++jV os l:=(by simp[jV]);rw[e,List.length_append,List.length_cons];omega
theorem flatF_refs {n:Nat} {os:List Ob} (h:∀o∈os,kH n o.fields) (l:List Int):kH n (jV os l):=fun v hv=>by
 obtain⟨fs,hf,hv⟩:=List.mem_flatten.1 hv;obtain⟨i,_,rfl⟩:=List.mem_map.1 hf;exact oV h i v hv
theorem own_i {w:World} {base:Nat} {A:Option Addr} {c:Nat} {l:List Int} (h:w.ownsRow base 3 1 (.slice A l.length c) l.length (l.map (.int .i64))) (hs:l.length*8≤140737488355328):dQ iE w (fun _=>False) base 3 (.slice A l.length c) l:=
 ⟨l.map (fun i=>[.int .i64 i]),⟨by simp,fun i x cs hx hc=>by
  rw[List.getElem?_map,hx] at hc;simp at hc
  subst hc;exact⟨rfl,rfl⟩⟩,by
  have e:(l.map (fun i=>[Value.int .i64 i])).flatten=l.map (.int .i64):=by
   clear h hs;induction l with
   |nil=>rfl
   |cons a l ih=>simp at ih ⊢;exact ih
  rw[e];exact h,hs⟩
theorem dQ.rdOwn {α:Type} {E:El α} {w:World} {S:Nat→Prop} {base:Nat} {e:TypeId} {v:Value} {xs:List α} (h:dQ E w S base e v xs):aj E w (fun b=>S b∨v.ownBlock=some b) v xs:=by
 obtain⟨css,hH,hown,hb⟩:=h;rcases hown.2 with⟨rfl,h0⟩|⟨g,cap,cur,rfl,hg,_,hn,hm,_⟩
 ·refine⟨none,0,by rw[h0],by omega,Nat.zero_le _,hb,fun hne=>absurd (List.eq_nil_of_length_eq_zero h0) hne⟩
 ·refine⟨_,cap,rfl,hn,hm,hb,fun _=>⟨g,0,rfl,.inr rfl,fun i x hx=>?_⟩⟩;have hil:i<xs.length:=(zE.1 hx).1;have hc:css[i]?=some (css[i]'(by rw[hH.len];exact hil)):=zD _;obtain⟨h1,h2⟩:=hH.each i x _ hx hc;refine⟨_,h1,E.keep (fun b _ hS=>⟨.inl hS,rfl⟩) h2,fun j u hu=>?_⟩;have:=hown.cells (g:=g) rfl _ u (jT hH.size hc hu);rw[←this,addr_add,Nat.zero_add,Nat.zero_add]
theorem aj.none_nil {α:Type} {E:El α} {w:World} {S:Nat→Prop} {A:Option Addr} {n c:Nat} {xs:List α} (h:aj E w S (.slice A n c) xs) (hA:A=none):n=0:=by
 obtain⟨A',c',hv,_,_,_,h4⟩:=h
 cases hv
 by_cases hne:xs= []
 ·simp[hne]
 ·obtain⟨b,o,hb,_⟩:=h4 hne;rw[hA] at hb
  cases hb
end
end Go.Proofs.YtdmocjnjbihloaaDoor
