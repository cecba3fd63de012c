/- Plain laws of what a clearing-up answers: what is kept, in its order; its places; the two ways to them. No condition; no run. The walk of heap.Alloc. No condition beside what is read. The walks of heap.Reach, of the document's answer to it, and of the statements' comparison of numbers. No condition beside what is read. -/
import Derived.Test.YtdmocjnjbihloaaDoorReach
import Derived.Test.YtdmocjnjbihloaaDoorActCopy
import Derived.Test.YtdmocjnjbihloaaDoorGet
import Derived.Test.YtdmocjnjbihloaaDoorHeapB
namespace Go.Proofs.YtdmocjnjbihloaaDoor
section
open Go.RowKit
def dF (n:Nat) (l:List Int):List Int:=((List.range n).map (fun (i:Nat)=>(i:Int))).filter (fun i=>decide (i∈l))
theorem iC {n:Nat} {l:List Int} {x:Int}:x∈dF n l↔x∈l∧0≤x∧x<n:=by
 simp only[dF,List.mem_filter,List.mem_map,List.mem_range,decide_eq_true_eq];constructor
 ·rintro⟨⟨i,hi,rfl⟩,h⟩;exact⟨h,by omega,by omega⟩
 ·rintro⟨h,h0,h1⟩;exact⟨⟨x.toNat,by omega,by omega⟩,h⟩
theorem ups (n:Nat):((List.range n).map (fun (i:Nat)=>(i:Int))).Pairwise (· < ·):=by
 rw[List.pairwise_map];exact(List.pairwise_lt_range).imp (fun h=>by omega)
theorem keepL_up (n:Nat) (l:List Int):(dF n l).Pairwise (· < ·):=(ups n).filter _
theorem mP (n:Nat) (l:List Int):(dF n l).Nodup:=(keepL_up n l).imp (fun h=>by omega)
theorem keepL_len (n:Nat) (l:List Int):(dF n l).length≤n:=by
 have:=List.length_filter_le (fun i=>decide (i∈l)) ((List.range n).map (fun (i:Nat)=>(i:Int)));simpa[dF] using this
theorem sort_keep {n:Nat} {l:List Int} (h:Told n l):(l.mergeSort fun x y=>decide (x≤y))=dF n l:=by
 have h1:(l.mergeSort fun x y=>decide (x≤y)).Pairwise (fun x y=>decide (x≤y)=true):=List.pairwise_mergeSort (fun a b c h1 h2=>by simp at*;omega) (fun a b=>by simp;omega) l;have h2:(dF n l).Pairwise (fun x y=>decide (x≤y)=true):=(keepL_up n l).imp (fun h=>by simp;omega);refine List.Perm.eq_of_pairwise (le:=fun x y=>decide (x≤y)=true) (fun a b _ _ h1 h2=>by simp at h1 h2;omega) h1 h2 ((List.mergeSort_perm l _).trans ?_);refine(List.perm_ext_iff_of_nodup h.nodup (mP n l)).2 (fun x=>?_);rw[iC];exact⟨fun hx=>⟨hx,h.within x hx⟩,fun hx=>hx.1⟩
def iq (os:List Ob) (K:List Int) (n:Int):Ob:=⟨(fieldsOf os n).map (aI (plM 0 K)),aV os n⟩
def collE (h:Hp) (roots:List V):Int:=if hpB h roots=false then 8 else 0
def gU (h:Hp) (roots:List V) (l:List Int):Hp:=if hpB h roots=false then ⟨0,[]⟩ else ⟨h.most,(dF h.ah.length l).map (iq h.ah (dF h.ah.length l))⟩
def eT (h:Hp) (roots:List V) (l:List Int):List V:=if hpB h roots=false then [] else roots.map (aI (plM 0 (dF h.ah.length l)))
def CollD (w:World) (h:Hp) (roots:List V) (l:List Int) (en:Ending) (w':World):Prop:=
 ∃u A c,en= .returned (.tuple #[u,.slice A (eT h roots l).length c,.int .i64 (collE h roots)])∧RdH w' w.heap.size u (gU h roots l)∧aj vE w' (fun b=>w.heap.size≤b) (.slice A (eT h roots l).length c) (eT h roots l)∧Below w.heap.size w w'
def rankL (_n:Nat) (l:List Int) (i:Nat):Int:=if(i:Int)∈l then((dF i l).length:Int) else -1
theorem keepL_succ (i:Nat) (l:List Int):dF (i+1) l=dF i l++(if(i:Int)∈l then [(i:Int)] else []):=by
 unfold dF;rw[List.range_succ,List.map_append,List.filter_append];by_cases h:(i:Int)∈l<;>simp[h]
theorem keepL_pre {n i:Nat} (l:List Int) (h:i≤n):∃r,dF n l=dF i l++r∧∀x∈r,(i:Int)≤x:=by
 induction n with
 |zero=>
      obtain rfl:i=0:=(by omega);exact⟨[],by simp,by simp⟩
 |succ n ih=>
  by_cases hi:i=n+1
  ·subst hi;exact⟨[],by simp,by simp⟩
  ·obtain⟨r,hr,hx⟩:=ih (by omega);refine⟨r++(if(n:Int)∈l then [(n:Int)] else []),by rw[keepL_succ,hr,List.append_assoc],fun x hx'=>?_⟩;rcases List.mem_append.1 hx' with h'|h'
   ·exact hx x h'
   ·split at h'
    ·simp at h';omega
    ·cases h'
theorem rank_plM {n i:Nat} {l:List Int} (hi:i<n) (hm:(i:Int)∈l):plM 0 (dF n l) (i:Int)=((dF i l).length:Int):=by
 obtain⟨r,hr,_⟩:=keepL_pre l (show i+1≤n from hi);rw[keepL_succ,if_pos hm] at hr;have h1:(dF n l)[(dF i l).length]?=some (i:Int):=by
  rw[hr,List.append_assoc,List.getElem?_append_right (Nat.le_refl _)];simp
 rw[plM_at (mP n l) h1];omega
end
section
open Go.RowKit
def di (n:Nat):Ob:=⟨List.replicate n ⟨0,0⟩,false⟩
def bV (h:Hp) (f:Int):Int:=if hpB h []=false then 8 else if f<1∨4<f then 2 else if(h.ah.length:Int)=h.most then 7 else 0
def bX (h:Hp) (f:Int):Hp:=if bV h f=0 then ⟨h.most,h.ah++[di f.toNat]⟩ else ⟨0,[]⟩
def bP (h:Hp) (f:Int):V:=if bV h f=0 then ⟨2,h.ah.length⟩ else ⟨0,0⟩
def Alloced (w:World) (h:Hp) (f:Int) (en:Ending) (w':World):Prop:=
 ∃v,en= .returned (.tuple #[v,.agg #[.int .i64 (bP h f).k,.int .i64 (bP h f).n],.int .i64 (bV h f)])∧RdH w' w.heap.size v (bX h f)∧Below w.heap.size w w'
theorem made_v (n:Nat):(madeCells #[.int .i64 0,.int .i64 0] (n*2)).toList=(List.replicate n [Value.int .i64 0,.int .i64 0]).flatten:=by
 have h:∀n,(madeCells #[.int .i64 0,.int .i64 0] n).toList=List.replicate n (Value.int .i64 0):=fun n=>by
  apply List.ext_getElem?
  intro i;simp only[madeCells,Array.toList_map,Array.toList_range,List.getElem?_map,List.getElem?_replicate];by_cases hi:i<n
  ·have h2:i % 2=0∨i % 2=1:=(by omega);simp[hi]
   rcases h2 with h2|h2<;>simp[h2]
  ·rw[List.getElem?_eq_none (by simp;omega)];simp[hi]
 rw[h];induction n with
 |zero=>rfl
 |succ n ih=>
  have h2:(n+1)*2=n*2+1+1:=(by omega);rw[h2,List.replicate_succ (n:=n),List.flatten_cons,←ih];rfl
theorem held_zero (w:World) (n:Nat):Held vE w (fun _=>False) (List.replicate n [Value.int .i64 0,.int .i64 0]) (List.replicate n (⟨0,0⟩:V)):=⟨by simp,fun i x cs hx hc=>by
 simp only[List.getElem?_replicate] at hx hc;split at hx
 ·rename_i h
  simp only[h,if_true] at hc;injection hx with hx
  injection hc with hc
  subst hx;subst hc;exact⟨rfl,rfl⟩
 ·cases hx⟩
set_option maxRecDepth 100000 in
set_option maxHeartbeats 4000000 in
theorem alloc_any (m:Int) (S:Nat→Prop) (A:Option Addr) (c:Nat) (os:List Ob) (f:Int) (w:World) (hr:aj obE w S (.slice A os.length c) os):
  Calls Tryd.prog 49 #[.agg #[.int .i64 m,.slice A os.length c],.int .i64 f] w (Alloced w ⟨m,os⟩ f):=by
 have Hr:=zG hr;obtain⟨-,h1,h2,h3⟩:=hr.fw;obtain⟨i0,hi0,hz0,hz1,hz2⟩:=info_parts infoO;obtain⟨iv,hiv,hv0,hv1,hv2⟩:=info_parts oZ;have H3:os.length*32≤140737488355328:=h3;clear hr h3;have hB:Below w.heap.size w (((w.alloc (.cells #[.int .i64 m,.slice A os.length c] 36)).alloc (.cells #[.int .i64 0,.slice none 0 0] 36)).alloc (.cells #[.int .i64 0,.int .i64 0] 47)):=
  (((Below.refl _ _).alloc (Nat.le_refl _) _).alloc (by simp) _).alloc (by simp;omega) _
 have L0:dD (((w.alloc (.cells #[.int .i64 m,.slice A os.length c] 36)).alloc (.cells #[.int .i64 0,.slice none 0 0] 36)).alloc (.cells #[.int .i64 0,.int .i64 0] 47))
   [(w.heap.size+1+1,#[.int .i64 0,.int .i64 0],47),(w.heap.size+1,#[.int .i64 0,.slice none 0 0],36),(w.heap.size,#[.int .i64 m,.slice A os.length c],36)]:=
  ((dD.nil.new rfl).new (by simp)).new (by simp)
 have nil0:∀W:World,aj vE W (fun _=>True) (.slice none ([]:List V).length 0) []:=fun W=>⟨none,0,rfl,Nat.le_refl _,Nat.zero_le _,by simp,fun h=>absurd rfl h⟩;have Nil0:=zG nil0;have Hl0:=zG L0;have HB:=zG hB;clear nil0 L0 hB;by_cases he:bV ⟨m,os⟩ f=0
 ·have eH:bX ⟨m,os⟩ f=⟨m,os++[di f.toNat]⟩:=if_pos he;have eV:bP ⟨m,os⟩ f=⟨2,os.length⟩:=if_pos he;unfold Alloced;rw[eH,eV,he];have hk:hpB ⟨m,os⟩ []=true∧1≤f∧f≤4∧(os.length:Int)≠m:=by
   unfold bV at he;split at he
   ·omega
   ·rename_i hp
    split at he
    ·omega
    ·split at he
     ·omega
     ·exact⟨by simpa using hp,by omega,by omega,by assumption⟩
  obtain⟨hp,i1,i2,i3⟩:=hk;have hc:checkN ⟨m,os⟩ []=0:=(by simp[checkN,hp]);have hlen:os.length+1≤60:=by
   simp[hpB,limB] at hp
   omega
  have Hc:=zG hc;obtain⟨n,rfl⟩:=Int.eq_ofNat_of_zero_le (show 0≤f by omega);clear he eH eV hc hp;have j1:(0:Int)≤(n:Int):=(by omega);go_enter Tryd.func49,Tryd.ntmps49
  go_wp2_with fail;refine(dN m _ _ A none c 0 os [] _ _ Hc (Hr.below (by decide) HB.out) (Nil0.out _)).mono ?_;rintro e w1 ⟨rfl,hb1⟩;have Hl1:w.heap.size+1+1<w1.heap.size:=(by have:=hb1.size;simp at this;omega);have L1:=Hl0.after hb1;have hbb:=bM HB.out hb1;have HL1:=zG L1;obtain⟨c0,f0,c1,f1,c2,f2,-⟩:=L1.rules;clear L1;go_wp2_with fail;refine(lU m _ A c os _ (Hr.below (by decide) hbb)).mono ?_;rintro e w2 ⟨v,vs,rfl,hsep,-,hb2⟩;obtain⟨A2,c2',rfl⟩:=bZ hsep.row;have L2:=HL1.after hb2;have hbb2:=bM hbb hb2;have HL2:=zG L2;have Hsep:=zG hsep;obtain⟨c0,f0,c1,f1,c2,f2,-⟩:=L2.rules;clear L2 hsep;go_wp2_with fail;have L3:=HL2.set2 2 (.int .i64 m) (.slice A2 os.length c2') rfl rfl (by simp<;>omega)
  have hsep3:gD ((w2.setCell ⟨w.heap.size,0,none⟩ (.int .i64 m)).setCell ⟨w.heap.size,1,none⟩ (.slice A2 os.length c2')) (fun _=>False) w1.heap.size (.slice A2 os.length c2') os vs os.length:=
   Hsep.keep (Nat.le_refl _) (fun b hb' _=>(Below.heap_setCell _ _ _ _ (by have:=Hl1;show b≠w.heap.size;omega)).trans (Below.heap_setCell _ _ _ _ (by have:=Hl1;show b≠w.heap.size;omega)))
  have hbb3:=fF (x:= .int .i64 m) (y:= .slice A2 os.length c2') (i:=0) (j:=1) hbb2 (Nat.le_refl w.heap.size);have hz3:w1.heap.size≤((w2.setCell ⟨w.heap.size,0,none⟩ (.int .i64 m)).setCell ⟨w.heap.size,1,none⟩ (.slice A2 os.length c2')).heap.size:=(by have:=hb2.size;simpa[World.setCell] using this);clear c0 f0 c1 f1 c2 f2 HL2 Hsep hbb2 hbb hb1 hb2 HL1;generalize (w2.setCell ⟨w.heap.size,0,none⟩ (.int .i64 m)).setCell ⟨w.heap.size,1,none⟩ (.slice A2 os.length c2')=w3 at*;have HL3:=zG L3;have Hsep3:=zG hsep3;simp only[zC,zB] at L3;obtain⟨c0,f0,c1,f1,c2,f2,-⟩:=L3.rules;clear L3;refine av [.still [0,1,2],.loud 3 [0,1],.still [4],.loud 5 [0,1],.loud 6 [],.still [7],.loud 8 []] (by kernel_rfl) (by kernel_rfl) ?_;refine ps_ ?_;repeat still_step
  refine zH ?_;refine pl_ ?_;refine wpList_make_full _ rfl _ _ 37 rfl w1.heap.size 47 iv _ 2 Tryd.underlying37 hiv hv0 hv1 _ _ _ _ n rfl rfl rfl rfl ?d1 ?d2 ?d3 ?next
  case d1=>rw[hv2];omega
  case d2=>unfold maxLen;omega
  case d3=>exact hz3
  case next=>
   intro w4 hown4 hgr4;have hl4:w3.heap.size<w4.heap.size:=(dJ hown4 (g:=w3.heap.size) rfl).1;have L4:=HL3.drew.grown hgr4 (fun e _=>by simp);have hrow4:=fH hsep3.row (Nat.le_refl _) (fun b hb'=>hgr4.block b (dJ hsep3.row hb').1 (by simp));have hbb4:Below w.heap.size w w4:=hbb3.drew.grown hgr4 (by show w.heap.size≤w3.heap.size;omega) (fun g hg=>by cases hg);have HL4:=zG L4;have Hrow4:=zG hrow4;have Hown4:=zG hown4;have Hgr4:=zG hgr4;obtain⟨c0,f0,c1,f1,c2,f2,-⟩:=L4.rules;have y0:w.heap.size<w4.heap.size:=(by omega);clear L4 hown4 hgr4 hrow4;go_wp2_with fail;refine ag_ ?_;refine ps_ ?_;repeat still_step
   refine zH ?_;refine pl_ ?_;go_wp2_with fail;refine ag_ ?_;refine pl_ ?_;refine wpList_append_own _ rfl (.tmp 34) (.tmp 38) _ rfl w1.heap.size 96 i0 _ 2 32 Tryd.underlying34 hi0 hz0 hz1 hz2 rfl (by omega) _ os.length (rowsOf vs os).flatten rfl (Hrow4.alloc _) ⟨w4.heap.size,0,none⟩ 1 1 [.slice (some ⟨w3.heap.size,0,none⟩) n n,.bool false] rfl rfl ?c1 ?c2 ?c3 ?c4 ?c5 ?next
   case c1=>exact World.news_of_block (cs:=#[.slice (some ⟨w3.heap.size,0,none⟩) n n,.bool false]) (t:=96) (fr:=(0,0)) (heap_alloc_new w4 _)
   case c2=>simp[Value.oneCell']
   case c3=>unfold maxLen;omega
   case c4=>omega
   case c5=>simp;omega
   case next=>
    intro v' w5 hown5 hgr5 _;obtain⟨A5,c5,rfl⟩:=bZ hown5;have hz5:w4.heap.size<w5.heap.size:=(by have:=hgr5.size;simp at this;omega);have L5:=(HL4.alloc _).grown hgr5 (fun e he=>fun e'=>by
     have h1:=(dJ Hsep3.row e').2;have h2:e.1≤w.heap.size+1+1:=by simp at he;rcases he with rfl|rfl|rfl<;>simp<;>omega
     omega)
    have hbb5:Below w.heap.size w w5:=(hbb4.alloc (by omega) _).grown hgr5 (by simp;omega) (fun g hg=>by have:=(dJ Hsep3.row hg).2;omega);have HL5:=zG L5;have Hown5:=zG hown5;have Hgr5:=zG hgr5;obtain⟨c0,f0,c1,f1,c2,f2,-⟩:=L5.rules;clear L5 hown5 hgr5;go_wp2_with fail;refine⟨trivial,?_⟩;refine ps_ ?_;repeat still_step
    refine zH ?_;refine pl_ ?_;go_wp2_with fail;refine⟨trivial,?_⟩;refine zI ?_;go_wp2_with fail;have hown:dQ vE w4 (fun _=>False) w1.heap.size 47 (.slice (some ⟨w3.heap.size,0,none⟩) n n) (di n).fields:=
     ⟨_,held_zero w4 n,by have:=Hown4.out;rw[show(Value.agg #[.int .i64 0,.int .i64 0]).cells= #[.int .i64 0,.int .i64 0] from rfl,made_v] at this;simpa[vE,di] using this,by simp[vE,di];omega⟩
    have hold:∀b,b<w3.heap.size→(Value.slice A2 os.length c2').ownBlock≠some b→w5.heap[b]?=w3.heap[b]?:=fun b hb' hne=>
     (Hgr5.block b (by simp;omega) hne.symm).trans ((Below.heap_alloc _ _ _ (by omega)).trans (Hgr4.block b hb' (by simp)))
    have hsep5:gD w5 (fun _=>False) w1.heap.size (.slice A5 (os.length+1) c5) (os++[di n]) (vs++[.slice (some ⟨w3.heap.size,0,none⟩) n n]) (os++[di n]).length:=by
     refine Hsep3.snoc Hown5.out hold ?_ (fun b hb'=>by simp[Value.ownBlock] at hb';omega);refine hown.keep (Nat.le_refl _) (fun b hb'=>?_) (fun _ _ h=>h.elim);simp[Value.ownBlock] at hb'
     subst hb';exact(Hgr5.block _ (by simp;omega) (fun e=>by have:=(dJ Hsep3.row e.symm).1;omega)).trans (Below.heap_alloc _ _ _ hl4)
    have hsep6:gD (w5.setCell ⟨w.heap.size,1,none⟩ (.slice A5 (os.length+1) c5)) (fun _=>False) w1.heap.size (.slice A5 (os.length+1) c5) (os++[di n]) (vs++[.slice (some ⟨w3.heap.size,0,none⟩) n n]) (os++[di n]).length:=
     hsep5.keep (Nat.le_refl _) (fun b hb' _=>Below.heap_setCell _ _ _ _ (by show b≠w.heap.size;omega))
    have hbb6:=hbb5.setCell (p:=⟨w.heap.size,1,none⟩) (Nat.le_refl w.heap.size) (.slice A5 (os.length+1) c5);have L6:=HL5.set 2 rfl (by intro j e hj hne;match j,hj with|0,hj=>(cases hj;simp;omega)|1,hj=>(cases hj;simp)|2,_=>exact absurd rfl hne) 1 (.slice A5 (os.length+1) c5);simp only[zC,zB] at L6;clear c0 f0 c1 f1 c2 f2 hown hold hsep5 Hown5 Hgr5 HL5 Hown4 Hgr4 HL4 hbb5 hbb4;generalize w5.setCell ⟨w.heap.size,1,none⟩ (.slice A5 (os.length+1) c5)=w6 at*;have Hsep6:=zG hsep6;have HL6:=zG L6;obtain⟨c0,f0,c1,f1,c2,f2,-⟩:=L6.rules;clear L6 hsep6;refine av [.still [0,1,2,3,4,5],.loud 6 [1,2,3,4,5],.loud 7 [],.still [8]] (by kernel_rfl) (by kernel_rfl) ?_;refine ps_ ?_;repeat still_step
    refine zH ?_;refine pl_ ?_;go_wp2_with fail;refine ag_ ?_;refine pl_ ?_;go_wp2_with fail;refine⟨trivial,?_⟩;refine ps_ ?_;repeat still_step
    refine zH ?_;refine zI ?_;go_wp2_with fail;have L7:=((HL6.set2 1 (.int .i64 m) (.slice A5 (os.length+1) c5) rfl rfl (by simp<;>omega)).set2 0 (.int .i64 2) (.int .i64 os.length) rfl rfl (by simp<;>omega)).drew
    obtain⟨c0',-,c1',-⟩:=L7.rules;have hS:=Hsep6.keep (w':=((((w6.setCell ⟨w.heap.size+1,0,none⟩ (.int .i64 m)).setCell ⟨w.heap.size+1,1,none⟩ (.slice A5 (os.length+1) c5)).setCell ⟨w.heap.size+1+1,0,none⟩ (.int .i64 2)).setCell ⟨w.heap.size+1+1,1,none⟩ (.int .i64 os.length)).drew) (Nat.le_refl _) (fun b hb' _=>by
     refine(Below.heap_setCell _ _ _ _ (by show b≠w.heap.size+1+1;omega)).trans ((Below.heap_setCell _ _ _ _ (by show b≠w.heap.size+1+1;omega)).trans ((Below.heap_setCell _ _ _ _ (by show b≠w.heap.size+1;omega)).trans (Below.heap_setCell _ _ _ _ (by show b≠w.heap.size+1;omega))))
    )
    have hl:(os++[di n]).length=os.length+1:=(by simp);rw[←hl] at hS;refine bodyPost_ret (v:=_) ?_ rfl ⟨.agg #[.int .i64 m,.slice A5 (os.length+1) c5],rfl,?_,(fF (fF hbb6 (by omega)) (by omega)).drew⟩
    ·simp[results,Tryd.results49,go_sem,c0',c1']
    ·rw[←hl];exact RdH.of_sep hS (by simp;omega) (by omega)
 ·have eH:bX ⟨m,os⟩ f=⟨0,[]⟩:=if_neg he;have eV:bP ⟨m,os⟩ f=⟨0,0⟩:=if_neg he;unfold Alloced;rw[eH,eV];have hk:∃k r,bV ⟨m,os⟩ f=r∧checkN ⟨m,os⟩ []=k∧((k=8∧r=8)∨(k=0∧r=2∧f<1)∨(k=0∧r=2∧1≤f∧4<f)∨(k=0∧r=7∧1≤f∧f≤4∧(os.length:Int)=m)):=by
   cases hp:hpB ⟨m,os⟩ []
   ·exact⟨8,8,by simp[bV,hp],by simp[checkN,hp],.inl ⟨rfl,rfl⟩⟩
   ·by_cases h:f<1∨4<f
    ·exact⟨0,2,by simp[bV,hp,h],by simp[checkN,hp],by omega⟩
    ·by_cases hm:(os.length:Int)=m
     ·exact⟨0,7,by simp[bV,hp,h,hm],by simp[checkN,hp],.inr (.inr (.inr ⟨rfl,rfl,by omega,by omega,hm⟩))⟩
     ·exact absurd (by simp[bV,hp,h,hm]) he
  obtain⟨k,r,e1,hc,hk⟩:=hk;rw[e1];have Hc:=zG hc;clear he eH eV e1 hc;rcases hk with⟨rfl,rfl⟩|⟨rfl,rfl,i1⟩|⟨rfl,rfl,i1,i2⟩|⟨rfl,rfl,i1,i2,i3⟩
  all_goals
   go_enter Tryd.func49,Tryd.ntmps49
   go_wp2_with fail;refine(dN m _ _ A none c 0 os [] _ _ Hc (Hr.below (by decide) HB.out) (Nil0.out _)).mono ?_;rintro e w1 ⟨rfl,hb1⟩;have L1:=Hl0.after hb1;have hbb:=bM HB.out hb1;have HL1:=zG L1;obtain⟨c0,f0,c1,f1,c2,f2,-⟩:=L1.rules;clear L1;go_wp2
   have L2:=(HL1.set2 1 (.int .i64 0) (.slice none 0 0) rfl rfl (by simp<;>omega)).set2 0 (.int .i64 0) (.int .i64 0) rfl rfl (by simp<;>omega)
   obtain⟨c0',-,c1',-⟩:=L2.rules;refine bodyPost_ret (v:=_) ?_ rfl ⟨.agg #[.int .i64 0,.slice none 0 0],rfl,.zero,fF (fF hbb (by omega)) (by omega)⟩;simp[results,Tryd.results49,go_sem,c0',c1']
end
section
open Go.RowKit
theorem hpB_slim {m:Int} {os:List Ob} {roots:List V} (h:hpB ⟨m,os⟩ roots=true):∀o∈os,o.fields.length≤4:=fun o ho=>by
 simp only[hpB,Bool.and_eq_true] at h;have:=List.all_eq_true.1 h.1.2 o ho;simp only[obB,Bool.and_eq_true,decide_eq_true_eq] at this;exact this.1.1
noncomputable def mZ (h:Hp) (roots:List V):List Int:=if hpB h roots=true then ay h.ah roots else []
def ReachD (w:World) (h:Hp) (roots:List V) (en:Ending) (w':World):Prop:=
 ∃A c,en= .returned (.tuple #[.slice A (mZ h roots).length c,.int .i64 (checkN h roots)])∧aj iE w' (fun b=>w.heap.size≤b) (.slice A (mZ h roots).length c) (mZ h roots)∧Below w.heap.size w w'
theorem told_rd {w:World} {base n:Nat} {v:Value} {l:List Int} (hn:n≤60) (ht:Go.Proofs.YtdmocjnjbihloaaDoor.Told n l) (h:w.ownsRow base 3 1 v l.length (l.map (.int .i64))):
  ∃A c,v= .slice A l.length c∧aj iE w (fun b=>base≤b) (.slice A l.length c) l:=by
 obtain⟨A,c,rfl⟩:=bZ h;exact⟨A,c,rfl,(own_i h (by have:=ht.len;omega)).rd.keep (by decide) (fun _ _ hS=>⟨hS.resolve_left id,rfl⟩)⟩
set_option maxHeartbeats 1000000 in
theorem reachD_any (m:Int) (S T:Nat→Prop) (A R:Option Addr) (c d:Nat) (os:List Ob) (roots:List V) (w:World) (hr:aj obE w S (.slice A os.length c) os) (hq:aj vE w T (.slice R roots.length d) roots):
  Calls Tryd.prog 38 #[.agg #[.int .i64 m,.slice A os.length c],.slice R roots.length d] w (ReachD w ⟨m,os⟩ roots):=by
 have Hr:=zG hr;have Hq:=zG hq;have hB:Below w.heap.size w (w.alloc (.cells #[.int .i64 m,.slice A os.length c] 36)):=(Below.refl _ _).alloc (Nat.le_refl _) _;have HL0:=zG (dD.nil.new (w:=w) (cs:=#[.int .i64 m,.slice A os.length c]) (t:=36) rfl);clear hr hq;unfold ReachD
 cases hp:hpB ⟨m,os⟩ roots
 ·have e1:mZ ⟨m,os⟩ roots= []:=(by simp[mZ,hp]);have e2:checkN ⟨m,os⟩ roots=8:=(by simp[checkN,hp]);have Hc:=zG e2;rw[e1,e2];clear hp e1 e2;go_enter Tryd.func38,Tryd.ntmps38
  go_wp2_with fail;refine(dN m _ _ A R c d os roots _ _ Hc (Hr.below (by decide) hB) (Hq.below (by decide) hB)).mono ?_;rintro e w1 ⟨rfl,hb1⟩;have hbb:=bM hB hb1;go_wp2
  go_ret2
  exact⟨none,0,rfl,⟨none,0,rfl,Nat.le_refl _,Nat.zero_le _,by simp,fun h=>absurd rfl h⟩,hbb⟩
 ·have e1:mZ ⟨m,os⟩ roots=ay os roots:=(by simp[mZ,hp]);have e2:checkN ⟨m,os⟩ roots=0:=(by simp[checkN,hp]);have Hc:=zG e2;have Hp:=zG hp;rw[e1,e2];clear hp e1 e2;go_enter Tryd.func38,Tryd.ntmps38
  go_wp2_with fail;refine(dN m _ _ A R c d os roots _ _ Hc (Hr.below (by decide) hB) (Hq.below (by decide) hB)).mono ?_;rintro e w1 ⟨rfl,hb1⟩;have hbb:=bM hB hb1;obtain⟨r0,q0,-⟩:=(HL0.after hb1).rules;go_wp2_with fail;refine(rZ m _ _ A R c d os roots _ (Hr.below (by decide) hbb) (Hq.below (by decide) hbb) (mF Hp.out)).mono ?_;rintro e w2 ⟨v,l,rfl,hl,ht,ho,hb2⟩;obtain⟨A2,c2,rfl,hrd⟩:=told_rd (mF Hp.out).few ht ho;have hbb2:=bM hbb hb2;have e3:=dM hl;subst e3;have Hrd:=zG (hrd.new (by decide) hbb.size);clear hl ht ho hrd;go_wp2
  go_ret2
  exact⟨A2,c2,rfl,Hrd.out,hbb2⟩
end
end Go.Proofs.YtdmocjnjbihloaaDoor
