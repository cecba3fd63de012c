/- <<iffile f slices.Clone[[]api.Instr,api.Instr]>> The walk of slices.Clone at api.Instr: a new row that holds the same list. No condition beside what is read. The walk of the stage's end. Condition: the stage is there; heaps may be. The walk of code.Copy: the same program, in memory of its own. No condition beside what is read. -/
import Derived.Test.YtdmocjnjbihloaaDoorHeapB
import Derived.Test.YtdmocjnjbihloaaDoorActT
import Derived.Deep.RegionLaw
import Derived.Deep.RegionWith
namespace Go.Proofs.YtdmocjnjbihloaaDoor
section
open Go.RowKit
def ClonedN (w:World) (S:Nat→Prop) (xs:List Ins) (en:Ending) (w':World):Prop:=∃v,en= .returned v∧dQ eQ w' S w.heap.size 58 v xs∧Below w.heap.size w w'
theorem infoN:(Tryd.prog.info? 58).map (fun i=>(i.zero,i.size,i.bytes))=some (some (.agg #[.int .i64 0,.int .i64 0,.int .i64 0,.int .i64 0]),4,32):=by kernel_rfl
set_option maxHeartbeats 1000000 in
theorem cloneN_any (S:Nat→Prop) (A:Option Addr) (c:Nat) (xs:List Ins) (w:World) (hr:aj eQ w S (.slice A xs.length c) xs):
  Calls Tryd.prog 69 #[.slice A xs.length c] w (ClonedN w S xs):=by
 obtain⟨-,h1,h2,h3⟩:=hr.fw;obtain⟨i0,hi0,hz0,hz1,hz2⟩:=info_parts infoN;obtain⟨css,hH,hflat⟩:=hr.held;rcases A with _|ad
 ·have hx:xs= []:=by
   obtain⟨A',c',hv,_,_,_,h4⟩:=hr
   cases hv
   by_cases hne:xs= []
   ·exact hne
   ·obtain⟨b,o,hA,_⟩:=h4 hne
    cases hA
  subst hx;have he:∀W:World,Sem.run Tryd.prog (binOp BinOp.eql 59 (.slice none 0 c) (.slice none 0 0)) W= .ok (.bool true) W:=fun W=>Lib.run_eql_slice_nil W 59 58 none 0 c 0 0 Tryd.underlying59;clear hr hH hflat h1 h2 h3;go_enter Tryd.func69,Tryd.ntmps69
  go_wp2
  go_ret
  exact⟨_,rfl,⟨[],Held.nil,⟨rfl,.inl ⟨rfl,rfl⟩⟩,by simp⟩,Below.refl _ _⟩
 ·have he:∀W:World,Sem.run Tryd.prog (binOp BinOp.eql 59 (.slice (some ad) xs.length c) (.slice none 0 0)) W= .ok (.bool false) W:=fun W=>Lib.run_eql_slice_nil W 59 58 (some ad) xs.length c 0 0 Tryd.underlying59;have hb:∀b,b<w.heap.size→S b→S b∧(w.alloc (.cells #[] 58)).heap[b]?=w.heap[b]?:=fun b hb hS=>⟨hS,Below.heap_alloc _ _ _ hb⟩;have Hfl:=zG (hflat ad rfl);have HH:=zG hH;have Hb:=zG hb;have Hlen:=zG (nu hH.size);have Hl2:=zG hH.len;have hown:(w.alloc (.cells #[] 58)).ownsRow w.heap.size 58 4 (.slice (some ⟨w.heap.size,0,none⟩) 0 0) 0 []:=
   ⟨rfl,.inr ⟨w.heap.size,0,#[],rfl,Nat.le_refl _,heap_alloc_new w _,Nat.le_refl _,Nat.zero_le _,rfl,rfl⟩⟩
  have Hown:=zG hown;clear hr hH hflat hb hown;go_enter Tryd.func69,Tryd.ntmps69
  go_wp2_with (at_builtin;refine wpList_append_own _ rfl (.tmp 5) (.tmp 6) _ rfl w.heap.size 58 i0 _ 4 32 Tryd.underlying59 hi0 hz0 hz1 hz2 rfl (by omega) (.slice (some ⟨w.heap.size,0,none⟩) 0 0) 0 [] rfl Hown.out ad xs.length c css.flatten rfl ?c1 ?c2 ?c3 ?c4 ?c5 ?c6 ?next)
  case c1=>rw[Hlen.out,Hl2.out];rfl
  case c2=>
   intro j u hu;have:=Hfl.out j u hu;rw[←this];refine World.cell?_alloc_lt w _ _ ?_;have hne:w.cell? (ad.add j)≠none:=(by rw[this];simp);rcases Nat.lt_or_ge (ad.add j).block w.heap.size with hl|hg
   ·exact hl
   ·exact absurd (by simp[World.cell?,Array.getElem?_eq_none hg]) hne
  case c3=>exact HH.one
  case c4=>unfold maxLen;omega
  case c5=>have h4:xs.length*32≤140737488355328:=h3;omega
  case c6=>simp
  case next=>
   intro v' w' hown' hg _;have Hown':=zG hown';clear hown';go_wp2
   go_ret
   have hB:Below w.heap.size w w':=((Below.refl _ _).alloc (Nat.le_refl _) _).grown hg (by simp) (fun k hk=>by simp[Value.ownBlock] at hk;omega);exact⟨_,rfl,⟨css,HH.keep (fun b hb hS=>⟨hS,hB.block b hb⟩),(by simpa using Hown'.out:w'.ownsRow w.heap.size 58 4 v' xs.length css.flatten),h3⟩,hB⟩
end
section
section
open Go.RowKit
theorem gone_fit {a:Ac} {how:Int} (hok:hpB a.heap (aC a)=true):hpB (eP a how).heap (aC (eP a how))=true∧(eP a how).box.length≤6:=by
 obtain⟨h,_⟩:=aR.1 hok;refine⟨aR.2 ⟨⟨h.low,h.high,h.low,fun o ho=>by cases ho⟩,fun v hv=>?_⟩,Nat.zero_le _⟩;simp[eP,aC] at hv
 rw[hv];rfl
set_option maxRecDepth 100000 in
set_option maxHeartbeats 8000000 in
theorem endS_any (B:Nat) (w0 w:World) (R0:List Res) (nk:Nat) (W:Wd) (L:Lay) (n:Nat) (a:Ac) (how:Int) (h:St B w0 w (stR true nk W L []::R0)) (hH:aA w (Fr 0 (stR true nk W L []::R0)) W L) (ha:W.aa[n]?=some a) (hf:Fit W) (hw1:aY (n:Int)=true) (hw2:aY how=true):
  Calls Tryd.prog 87 #[.pointer (some ⟨L.head,0,none⟩),.int .i64 n,.int .i64 how] w fun e w'=>e= .returned (.tuple #[])∧fE B w0 w nk W L R0 (gZ (W.put n (eP a how)) a.parent n how) w':=by
 obtain⟨iv,hiv,hv0,hv1,hv2⟩:=info_parts oZ;have hn:n<W.aa.length:=(zE.1 ha).1;have HA:=zG ha;have i1:(0:Int)≤(n:Int):=(by omega);have i2:(n:Int)<(W.aa.length:Int):=(by omega);have HF:=zG (hf.put (n:=n) (gone_fit (how:=how) (hf n a ha).1));clear ha;have HT:=zG h;have hz:w.heap.size≤w.heap.size:=Nat.le_refl _;have HK:Hid (au w (stR true nk W L []::R0) w (stR true nk W L []::R0)):=zG au.refl;have HH:=zG hH;clear h hH;go_enter Tryd.func87,Tryd.ntmps87
 obtain⟨c_,x_⟩:=HT.f2 0 HA;go_upto_region 1 with fail;replace⟨HT,HK,HH⟩:=sq (nu0 (HT.lg 0 rfl (.regs n) (by simp))) HK HH hz;replace⟨HT,HK,HH⟩:=sq (nu1 (HT.lg 1 rfl (.box n) (by simp))) HK HH hz;clear c_ x_;obtain⟨c_,x_⟩:=HT.f2 2 HA;refine av [.still [0,1,2,3,4,5,6,7,8,9,10,11,12,13,14,16],.loud 15 [0,1,2,3,4,5,6,7,8,9,10,11,12,13,14,16],.still [17,18],.loud 19 []] (by kernel_rfl) (by kernel_rfl) ?_;refine ps_ ?_;repeat still_step
 refine zH ?_;refine pl_ ?_;replace⟨HT,HK,HH,hz⟩:=zQ HT.drew' HK HH hz;refine wpList_make_full _ rfl (.const (.int .i64 8)) (.const (.int .i64 8)) 37 rfl w.drew.heap.size 47 iv _ 2 Tryd.underlying37 hiv hv0 hv1 _ _ _ _ 8 rfl rfl rfl rfl (by rw[hv2];omega) (by unfold maxLen;omega) (Nat.le_refl _) ?next
 case next=>
  intro W1 hown hgr;replace hown:=kQ alike_v hown;clear c_ x_;replace⟨HT,HK,HH,hz⟩:=zQ (HT.ownRow ((Below.refl _ _).grown hgr (Nat.le_refl _) (fun k hk=>by cases hk)) hown (m:=0) (Nat.zero_le _)) HK HH hz hgr.size;clear hown hgr;replace HT:Hid (St B w0 W1 (.row 0 47 2 (.slice (some ⟨w.heap.size,0,none⟩) 8 8) 8 (cat (vcs (List.replicate 8 aQ)))::Lay.bR true nk L W (.box n)::Lay.bR true nk L W (.regs n)::stR true nk W L [.box n,.regs n]::R0)):=HT;replace HK:Hid (au w (stR true nk W L []::R0) W1 (.row 0 47 2 (.slice (some ⟨w.heap.size,0,none⟩) 8 8) 8 (cat (vcs (List.replicate 8 aQ)))::Lay.bR true nk L W (.box n)::Lay.bR true nk L W (.regs n)::stR true nk W L [.box n,.regs n]::R0)):=HK;replace HH:Hid (aA W1 (Fr 0 (.row 0 47 2 (.slice (some ⟨w.heap.size,0,none⟩) 8 8) 8 (cat (vcs (List.replicate 8 aQ)))::Lay.bR true nk L W (.box n)::Lay.bR true nk L W (.regs n)::stR true nk W L [.box n,.regs n]::R0)) W L):=HH;obtain⟨c_,x_⟩:=HT.f2 3 HA;go_wp2_with fail;refine ag_ ?_;refine ps_ ?_;repeat still_step
  refine zH ?_;refine pl_ ?_;go_wp2_with fail;go_wp2_with fail;clear c_ x_;replace⟨HT,HK,HH,hz⟩:=zW ((((((((W1.setCell ⟨L.g,n*8,none⟩ (.int .i64 a.kind)).setCell ⟨L.g,n*8+1,none⟩ (.int .i64 a.parent)).setCell ⟨L.g,n*8+2,none⟩ (.int .i64 a.heap.most)).setCell ⟨L.g,n*8+3,none⟩ (.slice none 0 0)).setCell ⟨L.g,n*8+4,none⟩ (.slice (some ⟨w.heap.size,0,none⟩) 8 8)).setCell ⟨L.g,n*8+5,none⟩ (.int .i64 (-1))).setCell ⟨L.g,n*8+6,none⟩ (.slice none 0 0)).setCell ⟨L.g,n*8+7,none⟩ (.int .i64 how)) (.row 0 47 2 (.slice (some ⟨w.heap.size,0,none⟩) 8 8) 8 (cat (vcs (List.replicate 8 aQ)))::Lay.bR true nk L W (.box n)::Lay.bR true nk L W (.regs n)::stR true nk (W.put n (eP a how)) (((L.az n none 0).aO n w.heap.size 8).aN n none 0) [.box n,.regs n]::R0) (HT.actGone 3 rfl HA.out (by simp) (by simp) (by simp) w.heap.size 8 how) HK HH hz;replace HH:=zG (aA.gone HH.out HA.out (g:=w.heap.size) (c:=8) (how:=how));generalize ((((((((W1.setCell ⟨L.g,n*8,none⟩ (.int .i64 a.kind)).setCell ⟨L.g,n*8+1,none⟩ (.int .i64 a.parent)).setCell ⟨L.g,n*8+2,none⟩ (.int .i64 a.heap.most)).setCell ⟨L.g,n*8+3,none⟩ (.slice none 0 0)).setCell ⟨L.g,n*8+4,none⟩ (.slice (some ⟨w.heap.size,0,none⟩) 8 8)).setCell ⟨L.g,n*8+5,none⟩ (.int .i64 (-1))).setCell ⟨L.g,n*8+6,none⟩ (.slice none 0 0)).setCell ⟨L.g,n*8+7,none⟩ (.int .i64 how))=W2 at*;have HA1:Hid ((W.put n (eP a how)).aa[n]?=some (eP a how)):=zG (aJ HA.out);obtain⟨c_,x_⟩:=HT.f2 3 HA1;try dsimp only[Lay.az,Lay.aO,Lay.aN] at c_ x_
  refine⟨trivial,?_⟩;refine zI ?_;replace⟨HT,HK,HH⟩:=sq (HT.kg 0 47 2) HK HH hz;replace⟨HT,HK,HH⟩:=sq (ns3 (HT.plug 3 rfl ((by rw[Lay.bR,HA1.out];show _=iy _ n _;rw[jD];rfl)) (by simp))) HK HH hz;replace⟨HT,HK,HH⟩:=sq (ns2 (HT.plug 2 rfl ((by rw[Lay.bR,HA1.out];exact(mD (L:=((L.az n none 0).aO n w.heap.size 8).aN n none 0) (i:=n) (a:=eP a how) (g:=w.heap.size) (c:=8) (fQ L.rg n _) (fQ L.rc n 8)).symm)) (by simp))) HK HH hz;(iterate 2 replace⟨HT,HK,HH⟩:=sq (nd0 (HT.drop 0)) HK HH hz);by_cases hp:0≤a.parent
  ·clear c_ x_;obtain⟨c_,x_⟩:=HT.f2 0 HA1;try dsimp only[Lay.az,Lay.aO,Lay.aN] at c_
   try dsimp only[Lay.az,Lay.aO,Lay.aN,eP] at x_
   go_wp2_with fail;have G9:=tellS_any B w0 _ R0 nk (W.put n (eP a how)) (((L.az n none 0).aO n w.heap.size 8).aN n none 0) a.parent n how HT.out HH.out HF.out hw1 hw2;refine(G9).mono ?_;rintro en W3 ⟨rfl,L1,e1,e2,e3,e4,e5,hT,hH,hK,hs⟩;clear c_ x_;have K':=hK;replace HT:=zG hT;replace HK:=zG (HK.trans (by omega) K');replace HH:=zG hH;clear K' hK hT hH;replace hz:w.heap.size≤W3.heap.size:=Nat.le_trans hz hs;clear hs;clear G9;have HL1:=zG (And.intro e1 (And.intro e2 (And.intro e3 (And.intro e4 e5))));clear e1 e2 e3 e4 e5;go_wp2_with fail;go_end0
   exact⟨rfl,L1,HL1.out.1,HL1.out.2.1,HL1.out.2.2.1,HL1.out.2.2.2.1,HL1.out.2.2.2.2,HT.out,HH.out,HK.out,hz⟩
  ·clear c_ x_;obtain⟨c_,x_⟩:=HT.f2 0 HA1;try dsimp only[Lay.az,Lay.aO,Lay.aN] at c_
   try dsimp only[Lay.az,Lay.aO,Lay.aN,eP] at x_
   go_wp2_with fail;go_end0
   have e:gZ (W.put n (eP a how)) a.parent n how=W.put n (eP a how):=by
    have hlv:gH (W.put n (eP a how)) a.parent=false:=by
     unfold gH;rw[show decide (0≤a.parent)=false by simpa using hp];rfl
    unfold gZ gV;rw[hlv];rfl
   rw[e];exact⟨rfl,((L.az n none 0).aO n w.heap.size 8).aN n none 0,rfl,rfl,rfl,rfl,rfl,HT.out,HH.out,HK.out,hz⟩
end
section
open Go.RowKit
def CopiedO (w:World) (ps:List (List Ins)) (en:Ending) (w':World):Prop:=∃v css,en= .returned (.agg #[v])∧Held (slE eQ (by decide)) w' (fun b=>w.heap.size≤b∧v.ownBlock≠some b) css ps∧w'.ownsRow w.heap.size 59 1 v ps.length css.flatten∧ps.length*24≤140737488355328∧Below w.heap.size w w'
def CopiedP (w:World) (ps:List (List Ins)) (en:Ending) (w':World):Prop:=∃v,en= .returned v∧RdPg w' (fun b=>w.heap.size≤b) v ps∧Below w.heap.size w w'
theorem infoP:(Tryd.prog.info? 59).map (fun i=>(i.zero,i.size,i.bytes))=some (some (.slice none 0 0),1,24):=by kernel_rfl
set_option maxRecDepth 100000 in
set_option maxHeartbeats 2000000 in
theorem copyO_any (S:Nat→Prop) (A:Option Addr) (c:Nat) (ps:List (List Ins)) (w:World) (hr:aj (slE eQ (by decide)) w S (.slice A ps.length c) ps):
  Calls Tryd.prog 39 #[.agg #[.slice A ps.length c]] w (CopiedO w ps):=by
 obtain⟨-,h1,h2,h3⟩:=hr.fw;obtain⟨i0,hi0,hz0,hz1,hz2⟩:=info_parts infoP;have H3:ps.length*24≤140737488355328:=h3;have Hr:=zG hr;clear hr h3;go_enter Tryd.func39,Tryd.ntmps39
 go_wp2
 go_loopw [5,10] (fun _ i wr=>∃(k:Nat) (v:Value) (css:List (List Value)),k≤ps.length∧i= .int .i64 k∧wr.heap[w.heap.size+1]?=some (.cells #[.slice none 0 0] 26 (0,0))∧
   wr.heap[w.heap.size+1+1]?=some (.cells #[v] 26 (0,0))∧Held (slE eQ (by decide)) wr (fun b=>w.heap.size+1+1<b∧v.ownBlock≠some b) css (ps.take k)∧
   wr.ownsRow (w.heap.size+1+1+1) 59 1 v k css.flatten∧Below w.heap.size w wr∧w.heap.size+1+1<wr.heap.size) (fun _ i _=>ps.length - (intOf i).toNat)
 case atStart=>
  exact⟨0,.slice none 0 0,[],by omega,rfl,nT (gG (by simp)),gG (by simp),Held.nil,⟨rfl,.inl ⟨rfl,rfl⟩⟩,(((Below.refl _ _).alloc (Nat.le_refl _) _).alloc (by simp) _).alloc (by simp;omega) _,by simp⟩
 case round=>
  obtain⟨k,v,css,hk,rfl,hq1,hq2,hH,hown,hb,hsz⟩:=hrel;by_cases hlt:k<ps.length
  ·obtain⟨x,hx⟩:∃x,ps[k]?=some x:=⟨ps[k],zD hlt⟩;obtain⟨b,o,B,d,rfl,_,hbs,g0,hl⟩:=(Hr.below (by show 0<1;omega) hb).at_s hx;have k0:wr.cell? ⟨w.heap.size+1+1,0,none⟩=some v:=cell_of_row wr _ 0 _ _ _ hq2;have f0:wr.frozen? ⟨w.heap.size+1+1,0,none⟩=false:=(by simp[World.frozen?,hq2]);have Hq1:=zG hq1;have Hq2:=zG hq2;have HH:=zG hH;have Hown:=zG hown;have Hl:=zG hl;have Hx:=zG hx;clear hx hl hown hH hq1 hq2;have i1:(0:Int)≤(k:Int):=(by omega);have i2:(k:Int)<(ps.length:Int):=(by omega);go_wp2_with fail;have Hne:Hid (some (w.heap.size+1+1)≠v.ownBlock):=fun e=>by have:=(dJ Hown.out e.symm).2;omega
   go_region_law (first|(go_simp;go_at_call 69;refine(cloneN_any _ _ _ _ _ (Hl.below (by decide) (Below.refl _ _).drew)).mono ?_;rintro e w1 ⟨v1,rfl,hown1,hb1⟩;have k1:w1.cell? ⟨w.heap.size+1+1,0,none⟩=some v:=(hb1.cell (p:=⟨w.heap.size+1+1,0,none⟩) (by simp;omega)).trans k0;have f1:w1.frozen? ⟨w.heap.size+1+1,0,none⟩=false:=(hb1.frozen (p:=⟨w.heap.size+1+1,0,none⟩) (by simp;omega)).trans f0;obtain⟨A1,c1,hv1⟩:=hown1.form;subst hv1;have hs1:wr.heap.size≤w1.heap.size:=hb1.size;have hs2:w.heap.size+1+1<w1.heap.size:=(by omega);have Hown1:=zG hown1;clear hown1)|(refine step_append_lies _ (by rfl) _ _ _ (by rfl) (w.heap.size+1+1+1) 59 i0 _ 1 24 Tryd.underlying24 hi0 hz0 hz1 hz2 rfl (by omega) v k css.flatten (by rfl) ((own_below (w:=wr.drew) Hown.out hb1).alloc _) ⟨w1.heap.size,0,none⟩ 1 1 [.slice A1 x.length c1] (by rfl) (by rfl) (World.news_of_block (cs:=#[.slice A1 x.length c1]) (t:=59) (fr:=(0,0)) (heap_alloc_new w1 _)) (by simp[Value.oneCell']) (by omega) (by unfold maxLen;omega) (by omega) (by simp;omega) (w1.heap.size+1) (by simp) ?_;intro gg cap w2 hown2 hgrow hat hlt2;have hbl:w2.heap[w.heap.size+1+1]?=w1.heap[w.heap.size+1+1]?:=(hgrow.block _ (by simp;omega) Hne.out).trans (Below.heap_alloc _ _ _ (by omega));have g1:w2.cell? ⟨w.heap.size+1+1,0,none⟩=some v:=(World.cell?_of_block (w:=w1) (a:=⟨w.heap.size+1+1,0,none⟩) hbl).trans k1;have g2:w2.frozen? ⟨w.heap.size+1+1,0,none⟩=false:=(World.frozen?_of_block (w:=w1) (a:=⟨w.heap.size+1+1,0,none⟩) hbl).trans f1;have Hbl:=zG hbl;clear hbl;have Hgrow:=zG hgrow;clear hgrow;have Hown2:=zG hown2;clear hown2))
   all_goals
    go_wp2
    have hb1':Below w.heap.size w w1:=hb.drew.trans (hb1.mono (by simp;omega));have hb2:Below w.heap.size w w2:=(hb1'.alloc (by omega) _).grown Hgrow.out (by simp;omega) (fun g hg=>by have:=(dJ Hown.out hg).2;omega);have hz2:w1.heap.size+1≤w2.heap.size:=(by have:=Hgrow.size;simpa using this);have hkeep:∀b,b<wr.heap.size→v.ownBlock≠some b→b≠w.heap.size+1+1→(w2.setCell ⟨w.heap.size+1+1,0,none⟩ (.slice (some ⟨gg,0,none⟩) (k+1) cap)).heap[b]?=wr.heap[b]?:=fun b hb' hne hne2=>
     (Below.heap_setCell _ _ _ _ hne2).trans ((Hgrow.block b (by simp;omega) (fun e=>hne e.symm)).trans ((Below.heap_alloc _ _ _ (by omega)).trans (hb1.block b hb')))
    have hq2:w2.heap[w.heap.size+1+1]?=some (.cells #[v] 26 (0,0)):=(Hbl.trans (hb1.block _ (by simp;omega))).trans Hq2.out;have hgg:∀b,b<wr.heap.size→v.ownBlock≠some b→gg≠b:=fun b hb' hne e=>by
     rcases hat with h|h
     ·exact hne (by rw[h,e])
     ·omega
    go_roundw
    case rel=>
     refine⟨k+1,.slice (some ⟨gg,0,none⟩) (k+1) cap,css++[[.slice A1 x.length c1]],by omega,by go_num,(hkeep (w.heap.size+1) (by omega) (fun e=>by have:=(dJ Hown.out e).2;omega) (by omega)).trans Hq1.out,jK hq2 _,?_,?_,hb2.setCell (by show w.heap.size≤w.heap.size+1+1;omega) _,by show w.heap.size+1+1<(w2.setCell _ _).heap.size;simp only[World.setCell,Array.size_modify];omega⟩
     ·rw[List.take_add_one,Hx.out];refine(HH.keep (fun b hb' hS=>⟨⟨hS.1,fun e=>hgg b hb' hS.2 (by simpa[Value.ownBlock] using e)⟩,hkeep b hb' hS.2 (by have h:w.heap.size+1+1<b:=hS.1;omega)⟩)).append (Held.single rfl ⟨_,rfl,?_⟩);have h1:=(Hown1.flat (S':=fun _=>False) (fun _ _ _ _ h=>h)).rd;refine h1.keep (by decide) (fun b hb' hS=>?_);have hS':wr.heap.size≤b:=hS.resolve_left id;have hown:v.ownBlock≠some b:=fun e=>by have:=(dJ Hown.out e).1;omega
      refine⟨⟨by omega,fun e=>?_⟩,(Below.heap_setCell _ _ _ _ (by simp;omega)).trans ((Hgrow.block b (by simp;omega) (fun e=>hown e.symm)).trans (Below.heap_alloc _ _ _ hb'))⟩;have e':gg=b:=(by simpa[Value.ownBlock] using e);rcases hat with h|h
      ·exact hown (by rw[h,e'])
      ·omega
     ·have:=ownsRow_setCell_below (a:=⟨w.heap.size+1+1,0,none⟩) Hown2.out (by simp) (.slice (some ⟨gg,0,none⟩) (k+1) cap);simpa using this
    case measure=>simp[intOf];omega
  ·have hx:ps.take k=ps:=List.take_of_length_le (by omega);have hkk:k=ps.length:=(by omega);rw[hx] at hH;have hv:∃A' c',v= .slice A' k c':=by
    rcases hown.2 with⟨h,h0⟩|⟨g,cap,_,h,_⟩
    ·exact⟨none,0,by rw[h,h0]⟩
    ·exact⟨_,cap,h⟩
   obtain⟨A',c',rfl⟩:=hv;have k0:wr.cell? ⟨w.heap.size+1+1,0,none⟩=some (.slice A' k c'):=cell_of_row wr _ 0 _ _ _ hq2;have k1:wr.cell? ⟨w.heap.size+1,0,none⟩=some (.slice none 0 0):=cell_of_row wr _ 0 _ _ _ hq1;have f1:wr.frozen? ⟨w.heap.size+1,0,none⟩=false:=(by simp[World.frozen?,hq1]);have k2:(wr.setCell ⟨w.heap.size+1,0,none⟩ (.slice A' k c')).cell? ⟨w.heap.size+1,0,none⟩=some (.slice A' k c'):=cell_of_row _ _ 0 _ _ _ (jK hq1 _);have K2:=zG k2;have HH:=zG hH;have Hown:=zG hown;have Hkk:=zG hkk;clear hx hkk hH hown hq1 hq2 k2;go_wp2
   refine bodyPost_ret (v:= .agg #[.slice A' k c']) (by simp[results,Tryd.results39,go_sem,K2.out]) rfl ⟨_,css,rfl,HH.keep (fun b hb' hS=>?_),?_,H3,hb.setCell (by simp) _⟩
   ·have h':w.heap.size+1+1<b:=hS.1;exact⟨⟨by omega,hS.2⟩,Below.heap_setCell _ _ _ _ (by simp;omega)⟩
   ·have ho:=Hown.out;rw[Hkk.out] at ho ⊢;exact fH ho (by omega) (fun b hb'=>Below.heap_setCell _ _ _ _ (by have:=(dJ ho hb').2;simp;omega))
theorem copyP_any (S:Nat→Prop) (A:Option Addr) (c:Nat) (ps:List (List Ins)) (w:World) (hr:aj (slE eQ (by decide)) w S (.slice A ps.length c) ps):
  Calls Tryd.prog 39 #[.agg #[.slice A ps.length c]] w (CopiedP w ps):=by
 refine(copyO_any S A c ps w hr).mono ?_;rintro en w' ⟨v,css,rfl,hH,hown,hs,hb⟩;exact⟨_,rfl,⟨_,rfl,(dQ.rd (E:=slE eQ (by decide)) (S:=fun b=>w.heap.size≤b∧v.ownBlock≠some b) ⟨css,hH,hown,hs⟩).keep (by show 0<1;omega) (fun b _ h=>⟨h.elim (fun h=>h.1) id,rfl⟩)⟩,hb⟩
end
end
end Go.Proofs.YtdmocjnjbihloaaDoor
