/- The walk of actor.Run, where nothing is run. Condition: the table of operators is there. -/
import Derived.Test.YtmgbhhabdapniaaGreatDoorActK
import Derived.Test.YtmgbhhabdapniaaGreatDoorActNew
import Derived.Test.YtmgbhhabdapniaaGreatDoorCopyP
import Derived.Test.YtmgbhhabdapniaaGreatDoorActQ
import Derived.Test.YtmgbhhabdapniaaGreatDoorConcatV
namespace Go.Proofs.YtmgbhhabdapniaaGreatDoor
open Go.RowKit
section
variable {B:Nat} {w0 w w':World} {R:List Res} {st:Bool} {nk:Nat} {W:Wd} {L:Lay} {X:List Key}
theorem St.qP {r:Res} (h:St B w0 w R) (hT:St w.heap.size w w' [r]):St B w0 w' (r::R)∧au w R w' (r::R):=h.made hT.below r (hT.at_ 0 rfl) (fun _ hf=>hT.in_ 0 rfl hf)
theorem aA.qP {r:Res} (h:St B w0 w R) (hH:aA w' (Fr w.heap.size [r]) W L):aA w' (Fr 0 (r::R)) W L:=hH.keep (fun b _ hf=>⟨⟨Nat.zero_le _,fun x hx hxf=>by
 rcases List.mem_cons.1 hx with rfl|hx
 ·exact hf.2 x (by simp) hxf
 ·have:=(h.foot x hx b hxf).2;have:=hf.1;omega⟩,rfl⟩)
theorem St.reform (h:St B w0 w R) (i:Nat) (hi:R[i]?=some (stR st nk W L X)) {st':Bool} {nk':Nat} {L':Lay} {X':List Key} (hsame:∀k,L'.own st' nk' W X' k=L.own st nk W X k):
  St B w0 w (R.set i (stR st' nk' W L' X'))∧au w R w (R.set i (stR st' nk' W L' X')):=by
 have hS:aW st nk W L X w:=h.at_ i hi;refine h.turn (w':=w) i hi _ (Nat.le_refl _) rfl rfl rfl (fun _ _ _=>rfl) ⟨fun k=>by rw[hsame];exact hS.ok k,fun k k' hne b h1 h2=>?_,hS.regs⟩ (fun b ⟨k,hb⟩=> .inl ⟨k,by rw[←hsame];exact hb⟩);rw[hsame] at h1 h2;exact hS.apart k k' hne b h1 h2
theorem St.stageHead {nk0:Nat} {cs:Array Value} (b:Nat) (kA:Option Addr) (kc:Nat) (hcs:cs=eB nk {L with head:=b,kA:=kA,kc:=kc} W) (h:St B w0 w (.blk b cs 67::stR false nk0 W L []::R)):
  St B w0 w (stR true nk W {L with head:=b,kA:=kA,kc:=kc} []::R)∧au w (.blk b cs 67::stR false nk0 W L []::R) w (stR true nk W {L with head:=b,kA:=kA,kc:=kc} []::R):=by
 subst hcs;obtain⟨h1,k1⟩:=h.reform 1 rfl (st':=true) (nk':=nk) (L':={L with head:=b,kA:=kA,kc:=kc}) (X':=[.head]) (fun k=>by
  cases k with
  |head=>rw[lF (by simp),bS (by simp)];rfl
  |acts=>rw[bS (by simp),bS (by simp)];rfl
  |prints=>rw[bS (by simp),bS (by simp)];rfl
  |regs i=>rw[bS (by simp),bS (by simp)];rfl
  |box i=>rw[bS (by simp),bS (by simp)];rfl)
 obtain⟨h2,k2⟩:=h1.plug 0 rfl rfl (by simp);exact⟨h2,k1.trans (Nat.le_refl _) k2⟩
theorem own_upw {base n:Nat} {e:TypeId} {size:Nat} {v:Value} {k:Nat} {xs:List Value} (h:w.ownsRow base e size v k xs) (hn:∀b,v.ownBlock=some b→n≤b):w.ownsRow n e size v k xs:=by
 obtain⟨h1,h2⟩:=h;refine⟨h1,?_⟩;rcases h2 with h2|⟨g,cap,cur,hv,hg,h3⟩
 ·exact .inl h2
 ·exact .inr ⟨g,cap,cur,hv,hn g (by rw[hv];rfl),h3⟩
theorem ownV_upw {n k:Nat} {v:Value} {xs:List V} (h:w.ownsRow 0 88 2 v k (cat (vcs xs))) (hk:k=xs.length) (hs:xs.length*16≤140737488355328) (hn:∀b,v.ownBlock=some b→n≤b):aj vE w (fun b=>n≤b) v xs:=by
 subst hk;exact(dQ.rd (E:=vE) (S:=fun _=>False) ⟨vcs xs,gY xs,own_upw h hn,hs⟩).keep (by decide) (fun _ _ h=>⟨h.elim (fun h=>h.elim) id,rfl⟩)
def mI (w:World):Res:= .any (fun b=>b<w.heap.size) (fun w'=>∀b,b<w.heap.size→w'.heap[b]?=w.heap[b]?) (fun _ _ h ho b hb=>(h b hb).trans (ho b hb))
theorem oldStart (w:World):St 0 w w [mI w]:=⟨⟨rfl,rfl,rfl,Nat.le_refl _,fun _ _=>rfl⟩,fun r hr=>by simp at hr;subst hr;exact fun _ _=>rfl,fun r hr b hb=>by simp at hr;subst hr;exact⟨Nat.zero_le _,hb⟩,List.pairwise_singleton _ _,Nat.zero_le _⟩
theorem St.ma (h:St 0 w0 w R) (i:Nat) (hi:R[i]?=some (mI w0)):Below w0.heap.size w0 w:=⟨h.below.os,h.below.tape,h.below.output,h.below.size,h.at_ i hi⟩
theorem aj.old {α:Type} {E:El α} {S:Nat→Prop} {v:Value} {xs:List α} (hr:aj E w0 S v xs) (hE:0<E.size) (ho:(mI w0).ok w):aj E w (fun _=>True) v xs:=hr.keep hE (fun b hb _=>⟨trivial,ho b hb⟩)
theorem stage_acts (h:St 0 w0 w [stR st nk W L [],mI w0]) (hH:aA w (Fr 0 [stR st nk W L [],mI w0]) W L) (hb:∀a∈W.aa,a.box.length≤6) (hn:W.aa.length≤1000000):
  aj acE w (fun b=>w0.heap.size≤b) (.slice (some ⟨L.g,0,none⟩) W.aa.length L.gc) W.aa:=by
 have hS:aW st nk W L [] w:=h.at_ 0 rfl;have hf:∀(k:Key) b,(L.own st nk W [] k).foot b→w0.heap.size≤b:=fun k b hk=>Nat.le_of_not_lt (fun hlt=>(List.pairwise_cons.1 h.apart).1 (mI w0) (by simp) b ⟨k,hk⟩ hlt);have ho:=hS.ok .acts;rw[bS (by simp)] at ho;replace ho:w.ownsRow 0 54 8 (.slice (some ⟨L.g,0,none⟩) W.aa.length L.gc) W.aa.length (cat (dP L W.aa)):=ho;have ho':=own_upw ho (n:=w0.heap.size) (fun b hb=>hf .acts b (by rw[bS (by simp)];exact hb));refine(dQ.rd (E:=acE) (S:=fun b=>w0.heap.size≤b) ⟨dP L W.aa,⟨by simp[dP],fun i x cs hx hc=>?_⟩,ho',by show W.aa.length*112≤_;omega⟩).keep (by decide) (fun _ _ h=>⟨h.elim id id,rfl⟩);rw[pz hx] at hc;injection hc with hc
 subst hc;have h8:=hS.regs x (zF hx);have h6:=hb x (zF hx);have r1:=hS.ok (.regs i);have r2:=hS.ok (.box i);rw[bS (by simp)] at r1 r2;simp only[Lay.bR,hx] at r1 r2;refine⟨rfl,_,_,_,rfl,(hH i x hx).keep (by decide) (fun b _ h=>⟨Nat.le_of_not_lt (h.2 (mI w0) (by simp)),rfl⟩),ownV_upw r1 h8.symm (by omega) (fun b hb'=>hf (.regs i) b ?_),ownV_upw r2 rfl (by omega) (fun b hb'=>hf (.box i) b ?_)⟩
 ·rw[bS (by simp)];simp only[Lay.bR,hx];exact hb'
 ·rw[bS (by simp)];simp only[Lay.bR,hx];exact hb'
theorem tcs_held {S:Nat→Prop} (l:List Td):Held tdE w S (tcs l) l:=⟨by simp[tcs],fun i x cs hx hc=>by
 simp[tcs,hx] at hc
 subst hc;exact⟨rfl,rfl⟩⟩
theorem stage_tds (h:St 0 w0 w [stR st nk W L [],mI w0]) (hn:W.prints.length≤1000000):aj tdE w (fun b=>w0.heap.size≤b) (.slice L.pA W.prints.length L.pc) W.prints:=by
 have hS:aW st nk W L [] w:=h.at_ 0 rfl;have ho:=hS.ok .prints;rw[bS (by simp)] at ho;replace ho:w.ownsRow 0 73 2 (.slice L.pA W.prints.length L.pc) W.prints.length (cat (tcs W.prints)):=ho;have ho':=own_upw ho (n:=w0.heap.size) (fun b hb=>Nat.le_of_not_lt (fun hlt=>(List.pairwise_cons.1 h.apart).1 (mI w0) (by simp) b ⟨.prints,by rw[bS (by simp)];exact hb⟩ hlt));exact(dQ.rd (E:=tdE) (S:=fun _=>False) ⟨tcs W.prints,tcs_held _,ho',by show W.prints.length*16≤_;omega⟩).keep (by decide) (fun _ _ h=>⟨h.elim (fun h=>h.elim) id,rfl⟩)
end
section
variable {ps:List (List Ins)} {most:Int} {l:List ig}
theorem new_in (h:jc ps most=0):bT ps=0∧2≤most∧most≤60:=by
 unfold jc at h;split at h
 ·rename_i h0;exact absurd h h0
 ·rename_i h0
  simp only[Decidable.not_not] at h0;split at h
  ·cases h
  ·exact⟨(nC h0).1,by omega,by omega⟩
theorem run_zero (hN:jc ps most=0) (hl:l.length≤3000) (hg:∀(j:Nat) x,l[j]?=some x→cO x=0):runE ps most l=0:=by
 unfold runE;rw[if_neg (by rw[hN];decide),if_neg (by omega)];have:l.find? (fun d=>cO d !=0)=none:=List.find?_eq_none.2 fun x hx=>by
  obtain⟨j,hj⟩:=List.getElem?_of_mem hx;simp[hg j x hj]
 rw[this]
theorem run_bad (hN:jc ps most=0) (hl:l.length≤3000) {k:Nat} {x:ig} (hx:l[k]?=some x) (hg:∀(j:Nat) y,j<k→l[j]?=some y→cO y=0) {E:Int} (hE:cO x=E) (h0:E≠0):runE ps most l=E:=by
 unfold runE;rw[if_neg (by rw[hN];decide),if_neg (by omega)];have hkl:k<l.length:=(zE.1 hx).1;have:l.find? (fun d=>cO d !=0)=some x:=by
  have hs:l=l.take k++x::l.drop (k+1):=by
   have e:l[k]=x:=(zE.1 hx).2;rw[←e,←List.drop_eq_getElem_cons hkl,List.take_append_drop]
  rw[hs,List.find?_append];have h1:(l.take k).find? (fun d=>cO d !=0)=none:=List.find?_eq_none.2 fun y hy=>by
   obtain⟨j,hj⟩:=List.getElem?_of_mem hy;rw[List.getElem?_take] at hj;split at hj
   ·rename_i hjk;simp[hg j y hjk hj]
   ·cases hj
  rw[h1];simp[hE,h0]
 rw[this];exact hE
theorem run_more {k:Nat} {x:ig} (hg:∀(j:Nat) y,j<k→l[j]?=some y→cO y=0) (hx:l[k]?=some x) (hd:cO x=0):∀(j:Nat) y,j<k+1→l[j]?=some y→cO y=0:=fun j y hj hy=>by
 by_cases e:j=k
 ·subst e;rw[hx] at hy;injection hy with hy;rw[←hy];exact hd
 ·exact hg j y (by omega) hy
end
def RunD (w:World) (V:Wd) (e:Int) (en:Ending) (w':World):Prop:=
 ∃A c B d,en= .returned (.tuple #[.agg #[.slice A V.aa.length c,.slice B V.prints.length d],.int .i64 e])∧aj acE w' (fun b=>w.heap.size≤b) (.slice A V.aa.length c) V.aa∧aj tdE w' (fun b=>w.heap.size≤b) (.slice B V.prints.length d) V.prints∧Below w.heap.size w w'
set_option maxRecDepth 100000 in
set_option maxHeartbeats 8000000 in
theorem runA_any (S T:Nat→Prop) (A B:Option Addr) (c d:Nat) (ps:List (List Ins)) (most:Int) (l:List ig) (w:World) (hu:dV w) (hr:aj pgE w S (.slice A ps.length c) ps) (hq:aj deedE w T (.slice B l.length d) l) (hN:jc ps most≠0):
  Calls Tryz.prog 10 #[.agg #[.slice A ps.length c],.int .i64 most,.slice B l.length d] w (RunD w (runW ps most l) (runE ps most l)):=by
 unfold RunD;have hE:runE ps most l=jc ps most:=if_pos hN;have hW:runW ps most l=⟨[],[]⟩:=if_pos (by rw[hE];exact hN);rw[hE,hW];obtain⟨E,hEE⟩:∃E,jc ps most=E:=⟨_,rfl⟩;rw[hEE] at hN ⊢;have HN:=zG hN;have HE:=zG hEE;have e1:(E !=0)=true:=(by simpa using hN);clear hE hW hEE hN;obtain⟨-,u1,-,-⟩:=hq.fw;have Hu:=zG hu;have Hr:=zG hr;have Hq:=zG hq;clear hu hr hq;have T0:St 0 w (((w.alloc (.cells #[.slice A ps.length c] 24)).alloc (.cells #[.slice none 0 0,.slice none 0 0] 29))) [.blk (w.heap.size+1) #[.slice none 0 0,.slice none 0 0] 29,.blk w.heap.size #[.slice A ps.length c] 24,mI w]:=(((((oldStart w)).new' #[.slice A ps.length c] 24 (w.heap.size) (by simp)).1).new' #[.slice none 0 0,.slice none 0 0] 29 (w.heap.size+1) (by simp)).1;have HT:=zG T0;have hz:w.heap.size+1+1≤((w.alloc (.cells #[.slice A ps.length c] 24)).alloc (.cells #[.slice none 0 0,.slice none 0 0] 29)).heap.size:=(by simp);clear T0;go_enter Tryz.func10,Tryz.ntmps10
 go_upto_region 1 with fail;generalize ((w.alloc (.cells #[.slice A ps.length c] 24)).alloc (.cells #[.slice none 0 0,.slice none 0 0] 29))=W1 at*;have h_:=HT.rz 2;go_wp2_with fail;refine(newBad_any _ A c ps most E _ HE.out HN.out (Hu.below (HT.ma 2 rfl)) (aj.old (E:=pgE) Hr.out (by show 0<1;omega) (HT.at_ 2 rfl))).mono ?_;rintro en W2 ⟨rfl,hb⟩;clear h_;replace HT:=sp0 (HT.call hb);replace hz:=Nat.le_trans hz hb.size;clear hb;have h_:=HT.rz 2;go_upto_region 2 with fail;replace HT:=sp0 (HT.new' #[.slice none 0 0,.slice none 0 0] 29 W2.heap.size);replace hz:=HT.zz hz;clear h_;generalize (W2.alloc (.cells #[.slice none 0 0,.slice none 0 0] 29))=W3 at*;have h_:=HT.rz 3;go_wp2_with fail;clear h_;replace HT:=sp0 (ns1 (HT.dt 1 (.slice none 0 0) (.slice none 0 0) rfl rfl));replace hz:=HT.zz hz;generalize (W3.setCell ⟨w.heap.size+1,0,none⟩ (.slice none 0 0)).setCell ⟨w.heap.size+1,1,none⟩ (.slice none 0 0)=W4 at*;have h_:=HT.rz 3;try simp only[Exit.inBlock,Exit.then]
 refine bodyPost_ret (v:= .tuple #[.agg #[.slice none 0 0,.slice none 0 0],.int .i64 E]) (by simp[results,Tryz.results10,go_sem,h_.2.2.2.1]) rfl ?_;exact⟨none,0,none,0,rfl,aj.nil,aj.nil,HT.ma 3 rfl⟩
set_option maxRecDepth 100000 in
set_option maxHeartbeats 8000000 in
theorem runB_any (S T:Nat→Prop) (A B:Option Addr) (c d:Nat) (ps:List (List Ins)) (most:Int) (l:List ig) (w:World) (hu:dV w) (hr:aj pgE w S (.slice A ps.length c) ps) (hq:aj deedE w T (.slice B l.length d) l) (hN:jc ps most=0) (hl:3000<l.length):
  Calls Tryz.prog 10 #[.agg #[.slice A ps.length c],.int .i64 most,.slice B l.length d] w (RunD w (runW ps most l) (runE ps most l)):=by
 unfold RunD;have hE:runE ps most l=1:=(by unfold runE;rw[if_neg (by omega),if_pos hl]);have hW:runW ps most l=⟨[],[]⟩:=if_pos (by rw[hE];decide);rw[hE,hW];have HN:=zG hN;have l1:(l.length:Int)>3000:=(by omega);clear hE hW hl hN;obtain⟨-,u1,-,-⟩:=hq.fw;have Hu:=zG hu;have Hr:=zG hr;have Hq:=zG hq;clear hu hr hq;have T0:St 0 w (((w.alloc (.cells #[.slice A ps.length c] 24)).alloc (.cells #[.slice none 0 0,.slice none 0 0] 29))) [.blk (w.heap.size+1) #[.slice none 0 0,.slice none 0 0] 29,.blk w.heap.size #[.slice A ps.length c] 24,mI w]:=(((((oldStart w)).new' #[.slice A ps.length c] 24 (w.heap.size) (by simp)).1).new' #[.slice none 0 0,.slice none 0 0] 29 (w.heap.size+1) (by simp)).1;have HT:=zG T0;have hz:w.heap.size+1+1≤((w.alloc (.cells #[.slice A ps.length c] 24)).alloc (.cells #[.slice none 0 0,.slice none 0 0] 29)).heap.size:=(by simp);clear T0;go_enter Tryz.func10,Tryz.ntmps10
 go_upto_region 1 with fail;generalize ((w.alloc (.cells #[.slice A ps.length c] 24)).alloc (.cells #[.slice none 0 0,.slice none 0 0] 29))=W1 at*;have h_:=HT.rz 2;go_wp2_with fail;refine(rY _ A c ps most _ HN.out (Hu.below (HT.ma 2 rfl)) (aj.old (E:=pgE) Hr.out (by show 0<1;omega) (HT.at_ 2 rfl))).mono ?_;rintro en W2 ⟨L,hpA,hpc,rfl,hT,hH⟩;have Hfresh:=zG (HT.out);clear h_;replace HT:=sp0 (HT.qP hT);replace hz:w.heap.size+1+1≤W2.heap.size:=Nat.le_trans hz hT.below.size;have HH:Hid (aA W2 (Fr 0 [stR false 0 (fZ most) L [],.blk (w.heap.size+1) #[.slice none 0 0,.slice none 0 0] 29,.blk w.heap.size #[.slice A ps.length c] 24,mI w]) (fZ most) L):=zG (aA.qP Hfresh.out hH);clear Hfresh hT hH;have h_:=HT.rz 2;go_upto_region 2 with fail;replace⟨HT,HH⟩:=sp1 (HT.new' #[.slice (some ⟨L.g,0,none⟩) 1 L.gc,.slice none 0 0] 29 W2.heap.size) HH.s;replace hz:=HT.zz hz;clear h_;generalize (W2.alloc (.cells #[.slice (some ⟨L.g,0,none⟩) 1 L.gc,.slice none 0 0] 29))=W3 at*;have h_:=HT.rz 3;clear hpA hpc;go_wp2_with fail;clear h_;replace⟨HT,HH⟩:=sp1 (ns2 (HT.dt 2 (.slice none 0 0) (.slice none 0 0) rfl rfl)) HH.s;replace hz:=HT.zz hz;generalize (W3.setCell ⟨w.heap.size+1,0,none⟩ (.slice none 0 0)).setCell ⟨w.heap.size+1,1,none⟩ (.slice none 0 0)=W4 at*;have h_:=HT.rz 3;try simp only[Exit.inBlock,Exit.then]
 refine bodyPost_ret (v:= .tuple #[.agg #[.slice none 0 0,.slice none 0 0],.int .i64 1]) (by simp[results,Tryz.results10,go_sem,h_.2.2.2.1]) rfl ?_;exact⟨none,0,none,0,rfl,aj.nil,aj.nil,HT.ma 4 rfl⟩
end Go.Proofs.YtmgbhhabdapniaaGreatDoor
