/- The walk of treadwheelref.laterOf. Condition: registers and the operator are in their bounds. The walks of the document's mayBeDone, waysOn, sameKnown. Condition: registers, the operator and places are in their bounds. What the document's flow holds in memory. No condition; no run. <<iffile f slices.Clone[[]int,int]>> The walk of slices.Clone at int: a new row that holds the same list. No condition beside what is read. The walk of verify.Types. Condition: the table of operators is as the program's text lays it. -/
import Derived.Test.YtdmocjnjbihloaaDoorFlowM
import Derived.Test.YtdmocjnjbihloaaDoorSortI
import Derived.Test.YtdmocjnjbihloaaDoorConcatV
import Derived.Test.YtdmocjnjbihloaaDoorHeapB
import Derived.Test.YtdmocjnjbihloaaDoorVerCheck
namespace Go.Proofs.YtdmocjnjbihloaaDoor
section
section
open Go.RowKit
def NewI (w:World) (l:List Int) (en:Ending) (w':World):Prop:=∃A c,en= .returned (.slice A l.length c)∧aj iE w' (fun b=>w.heap.size≤b) (.slice A l.length c) l∧Below w.heap.size w w'
theorem rdI_cells {w:World} {S:Nat→Prop} {A:Option Addr} {n c:Nat} {xs:List Int} (h:aj iE w S (.slice A n c) xs):∀ad,A=some ad→∀(j:Nat) (u:Value),(xs.map (.int .i64))[j]?=some u→w.cell? (ad.add j)=some u:=fun ad hA j u hu=>by
 subst hA;simp only[List.getElem?_map,Option.map_eq_some_iff] at hu;obtain⟨x,hx,rfl⟩:=hu;obtain⟨b,o,hA,_,_,hc⟩:=h.at_i hx
 cases hA
 rw[addr_add];exact hc
theorem set_flip (k:List Int) (a b:Nat) (x:Int):(k.set b x).set a x=(k.set a x).set b x:=by
 by_cases h:a=b
 ·subst h;rfl
 ·exact(List.set_comm _ _ h).symm
end
section
open Go.RowKit
end
end
section
open Go.RowKit
def liE:El (List Int):=slE iE (by decide)
section
variable {B:Nat} {w0 w w':World} {R R':List Res}
end
noncomputable def rQ (ps:List (List Ins)) (kd:Int):List (List Int)×Int:=
 if bT ps≠0 then([],bT ps) else if ¬(0≤kd∧kd<ps.length) then([],6) else(bQ (ps.getD kd.toNat []),0)
theorem typesP_bad {ps:List (List Ins)} {kd:Int} (h:bT ps≠0):rQ ps kd=([],bT ps):=if_pos h
theorem typesP_none {ps:List (List Ins)} {kd:Int} (h:bT ps=0) (hk:¬(0≤kd∧kd<ps.length)):rQ ps kd=([],6):=by
 unfold rQ;rw[if_neg (by simp[h]),if_pos hk]
theorem typesP_ok {ps:List (List Ins)} {k:Nat} {l:List Ins} (h:bT ps=0) (hl:ps[k]?=some l):rQ ps (k:Int)=(bQ l,0):=by
 have:=(zE.1 hl).1;unfold rQ;rw[if_neg (by simp[h]),if_neg (by omega),Int.toNat_natCast,List.getD_eq_getElem?_getD,hl];rfl
def TypesD (w:World) (r:List (List Int)×Int) (en:Ending) (w':World):Prop:=
 ∃A c,en= .returned (.tuple #[.slice A r.1.length c,.int .i64 r.2])∧aj liE w' (fun b=>w.heap.size≤b) (.slice A r.1.length c) r.1∧Below w.heap.size w w'
theorem rdl_nil {w:World} {S:Nat→Prop}:aj liE w S (.slice none 0 0) []:=⟨none,0,rfl,Nat.le_refl _,Nat.zero_le _,by simp,fun h=>absurd rfl h⟩
theorem rdl_nili {w:World} {S:Nat→Prop}:aj iE w S (.slice none 0 0) []:=⟨none,0,rfl,Nat.le_refl _,Nat.zero_le _,by simp,fun h=>absurd rfl h⟩
theorem rd_ksub {w:World} {S:Nat→Prop} {A:Option Addr} {n c:Nat} {ks:List (List Int)} (h:aj knE w S (.slice A n c) ks) {i:Nat} {k:List Int} (hx:ks[i]?=some k) (h8:k.length=8):
  ∃b o,A=some ⟨b,o,none⟩∧aj iE w S (.slice (some ⟨b,o+i*8,none⟩) 8 8) k:=by
 obtain⟨b,o,cs,hA,hS,_,⟨rfl,_⟩,hc⟩:=h.at_ hx;refine⟨b,o,hA,_,8,by rw[h8],by omega,by decide,by rw[h8];decide,fun _=>⟨b,o+i*8,rfl,hS,fun j x hj=>⟨[.int .i64 x],rfl,rfl,fun m u hu=>?_⟩⟩⟩;match m,hu with
 |0,hu=>
  cases hu
  have:=hc j (.int .i64 x) (by simp[hj]);simpa[iE,knE] using this
end
section
open Go.RowKit
def ClonedI (w:World) (S:Nat→Prop) (xs:List Int) (en:Ending) (w':World):Prop:=∃v,en= .returned v∧dQ iE w' S w.heap.size 3 v xs∧Below w.heap.size w w'
theorem infoI1:(Tryd.prog.info? 3).map (fun i=>(i.zero,i.size,i.bytes))=some (some (.int .i64 0),1,8):=by kernel_rfl
set_option maxHeartbeats 1000000 in
theorem cloneI_any (S:Nat→Prop) (A:Option Addr) (c:Nat) (xs:List Int) (w:World) (hr:aj iE w S (.slice A xs.length c) xs):
  Calls Tryd.prog 37 #[.slice A xs.length c] w (ClonedI w S xs):=by
 obtain⟨-,h1,h2,h3⟩:=hr.fw;obtain⟨i0,hi0,hz0,hz1,hz2⟩:=info_parts infoI1;obtain⟨css,hH,hflat⟩:=hr.held;rcases A with _|ad
 ·have hx:xs= []:=by
   obtain⟨A',c',hv,_,_,_,h4⟩:=hr
   cases hv
   by_cases hne:xs= []
   ·exact hne
   ·obtain⟨b,o,hA,_⟩:=h4 hne
    cases hA
  subst hx;have he:∀W:World,Sem.run Tryd.prog (binOp BinOp.eql 40 (.slice none 0 c) (.slice none 0 0)) W= .ok (.bool true) W:=fun W=>Lib.run_eql_slice_nil W 40 3 none 0 c 0 0 Tryd.underlying40;clear hr hH hflat h1 h2 h3;go_enter Tryd.func37,Tryd.ntmps37
  go_wp2
  go_ret
  exact⟨_,rfl,⟨[],Held.nil,⟨rfl,.inl ⟨rfl,rfl⟩⟩,by simp⟩,Below.refl _ _⟩
 ·have he:∀W:World,Sem.run Tryd.prog (binOp BinOp.eql 40 (.slice (some ad) xs.length c) (.slice none 0 0)) W= .ok (.bool false) W:=fun W=>Lib.run_eql_slice_nil W 40 3 (some ad) xs.length c 0 0 Tryd.underlying40;have hb:∀b,b<w.heap.size→S b→S b∧(w.alloc (.cells #[] 3)).heap[b]?=w.heap[b]?:=fun b hb hS=>⟨hS,Below.heap_alloc _ _ _ hb⟩;have Hfl:=zG (hflat ad rfl);have HH:=zG hH;have Hb:=zG hb;have Hlen:=zG (nu hH.size);have Hl2:=zG hH.len;have hown:(w.alloc (.cells #[] 3)).ownsRow w.heap.size 3 1 (.slice (some ⟨w.heap.size,0,none⟩) 0 0) 0 []:=
   ⟨rfl,.inr ⟨w.heap.size,0,#[],rfl,Nat.le_refl _,heap_alloc_new w _,Nat.le_refl _,Nat.zero_le _,rfl,rfl⟩⟩
  have Hown:=zG hown;clear hr hH hflat hb hown;go_enter Tryd.func37,Tryd.ntmps37
  go_wp2_with (at_builtin;refine wpList_append_own _ rfl (.tmp 5) (.tmp 6) _ rfl w.heap.size 3 i0 _ 1 8 Tryd.underlying40 hi0 hz0 hz1 hz2 rfl (by omega) (.slice (some ⟨w.heap.size,0,none⟩) 0 0) 0 [] rfl Hown.out ad xs.length c css.flatten rfl ?c1 ?c2 ?c3 ?c4 ?c5 ?c6 ?next)
  case c1=>rw[Hlen.out,Hl2.out];rfl
  case c2=>
   intro j u hu;have:=Hfl.out j u hu;rw[←this];refine World.cell?_alloc_lt w _ _ ?_;have hne:w.cell? (ad.add j)≠none:=(by rw[this];simp);rcases Nat.lt_or_ge (ad.add j).block w.heap.size with hl|hg
   ·exact hl
   ·exact absurd (by simp[World.cell?,Array.getElem?_eq_none hg]) hne
  case c3=>exact HH.one
  case c4=>unfold maxLen;omega
  case c5=>have h4:xs.length*8≤140737488355328:=h3;omega
  case c6=>simp
  case next=>
   intro v' w' hown' hg _;have Hown':=zG hown';clear hown';go_wp2
   go_ret
   have hB:Below w.heap.size w w':=((Below.refl _ _).alloc (Nat.le_refl _) _).grown hg (by simp) (fun k hk=>by simp[Value.ownBlock] at hk;omega);exact⟨_,rfl,⟨css,HH.keep (fun b hb hS=>⟨hS,hB.block b hb⟩),(by simpa using Hown'.out:w'.ownsRow w.heap.size 3 1 v' xs.length css.flatten),h3⟩,hB⟩
end
section
open Go.RowKit
theorem infoLI:(Tryd.prog.info? 40).map (fun i=>(i.zero,i.size,i.bytes))=some (some (.slice none 0 0),1,24):=by kernel_rfl
set_option maxRecDepth 100000 in
set_option maxHeartbeats 8000000 in
theorem types_any (S:Nat→Prop) (A:Option Addr) (c:Nat) (ps:List (List Ins)) (kd:Int) (w:World) (hu:dV w) (hr:aj pgE w S (.slice A ps.length c) ps):
  Calls Tryd.prog 14 #[.agg #[.slice A ps.length c],.int .i64 kd] w (TypesD w (rQ ps kd)):=by
 have Hu:=zG hu;clear hu;obtain⟨-,hc1,hc2,hc3⟩:=hr.fw;have Hr:=zG hr;clear hr hc3;have T0:St w.heap.size w ((w.alloc (.cells #[.slice A ps.length c] 26))) [.blk w.heap.size #[.slice A ps.length c] 26]:=((St.start w (Nat.le_refl _)).new' #[.slice A ps.length c] 26 (w.heap.size) (by simp)).1;have HT:=zG T0;have hz:w.heap.size+1≤(w.alloc (.cells #[.slice A ps.length c] 26)).heap.size:=(by simp);clear T0;replace Hr:Hid (aj pgE ((w.alloc (.cells #[.slice A ps.length c] 26))) (Fr 0 [.blk w.heap.size #[.slice A ps.length c] 26]) (.slice A ps.length c) ps):=zG (aj.pool (E:=pgE) Hr.out (by show 0<1;omega) HT.out);go_enter Tryd.func14,Tryd.ntmps14
 go_upto_region 1 with fail;generalize (w.alloc (.cells #[.slice A ps.length c] 26))=W1 at*;have h_:=HT.rz 1;by_cases hp:bT ps=0
 ·have hpn:(bT ps !=0)=false:=(by simpa using hp);have hpe:(bT ps==0)=true:=(by simpa using hp);have Hp:=zG hp;have Hok:=zG (progF_fl hp);by_cases hkd:0≤kd∧kd<ps.length
  ·obtain⟨k,rfl⟩:=Int.eq_ofNat_of_zero_le hkd.1;have hkl:k<ps.length:=(by omega);obtain⟨l,hl⟩:∃l,ps[k]?=some l:=⟨ps[k],zD hkl⟩;have Hfl:=zG (Hok.out.2.2 l (zF hl));have Hfl1:=Hfl.one;have Hfl6:=Hfl.few;have HL:=zG hl;have HE:=zG (typesP_ok hp hl);have i1:(0:Int)≤(k:Int):=(by omega);have i2:(k:Int)<(ps.length:Int):=(by omega);have Hfe:=zG (nN l);have Hfn:=zG (rO (l:=l) (by intro h;rw[h] at Hfl1;exact absurd Hfl1 (by decide)));clear hl hp hkd;have i3:¬(k:Int)<0:=(by omega);go_wp2_with fail;refine(jg _ A c ps _ (Hu.below HT.below) Hr.out).mono ?_;rintro en W4 ⟨rfl,hb⟩;clear h_;replace⟨HT,Hr⟩:=sp1 (HT.call hb) Hr.s;replace hz:=Nat.le_trans hz hb.size;clear hb;have h_:=HT.rz 1;obtain⟨fb,fo,lb,lc,rfl,_,_,y0,hrl⟩:=Hr.at_s HL.out;have Hrl:=zG hrl;clear hrl;replace Hrl:Hid (aj eQ W4 (Fr 0 [.blk w.heap.size #[.slice (some ⟨fb,fo,none⟩) ps.length c] 26]) (.slice lb l.length lc) l):=Hrl;clear h_;have h_:=HT.rz 1;go_wp2_with fail;refine(flow_any _ lb lc l Hfl.out _ Hrl.out).mono ?_;rintro en W5 ⟨Aa,ca,Ad,cd,rfl,hra,hrd,hb⟩;clear h_;have Hfresh:=zG (HT.out);have hzo:w.heap.size≤W4.heap.size:=(by omega);replace⟨HT,Hr,Hrl⟩:=sp2 (HT.call hb) Hr.s Hrl.s;replace hz:=Nat.le_trans hz hb.size;clear hb;have Ha:Hid (aj knE W5 (Fr w.heap.size [.blk w.heap.size #[.slice (some ⟨fb,fo,none⟩) ps.length c] 26]) (.slice Aa l.length ca) (dG (bQ l))):=zG (hra.fresh (by first|decide|(show 0<1;omega)) Hfresh.out hzo);clear hra;have Hd:Hid (aj yE W5 (Fr w.heap.size [.blk w.heap.size #[.slice (some ⟨fb,fo,none⟩) ps.length c] 26]) (.slice Ad l.length cd) (aU (bQ l))):=zG (hrd.fresh (by first|decide|(show 0<1;omega)) Hfresh.out hzo);clear hrd;clear Hfresh hzo;have h_:=HT.rz 1;clear y0;replace⟨HT,Hr,Hrl,Ha,Hd⟩:=sp4 (HT.kg w.heap.size 40 1) Hr.s Hrl.s Ha.s Hd.s;have HO:Hid (Held liE W5 (Fr w.heap.size [.row w.heap.size 40 1 (.slice none 0 0) 0 (cat []),.blk w.heap.size #[.slice (some ⟨fb,fo,none⟩) ps.length c] 26]) [] ((bQ l).take 0)):=zG Held.nil;clear h_;have h_:=HT.rz 1;go_wp2_with fail;go_loopw [38,10] (fun i vs wl6=>∃(j:Nat) (vo:Value) (css:List (List Value)),(fun R9:List Res=>i= .int .i64 j∧vo=vs∧j≤l.length∧St w.heap.size w wl6 R9∧aj pgE wl6 (Fr 0 R9) (.slice (some ⟨fb,fo,none⟩) ps.length c) ps∧aj eQ wl6 (Fr 0 R9) (.slice lb l.length lc) l∧aj knE wl6 (Fr w.heap.size R9) (.slice Aa l.length ca) (dG (bQ l))∧aj yE wl6 (Fr w.heap.size R9) (.slice Ad l.length cd) (aU (bQ l))∧Held liE wl6 (Fr w.heap.size R9) css ((bQ l).take j)∧w.heap.size+1≤wl6.heap.size) [.row w.heap.size 40 1 vo j (cat css),.blk w.heap.size #[.slice (some ⟨fb,fo,none⟩) ps.length c] 26]) (fun i _ _=>l.length - (intOf i).toNat)
   case atStart=>
    refine⟨0,.slice none 0 0,[],?_,?_,?_,HT.out,Hr.out,Hrl.out,Ha.out,Hd.out,HO.out,hz⟩
    ·rfl
    ·rfl
    ·exact Nat.zero_le _
   case round=>
    generalize wr=wl6 at*;clear HT Hr Hrl Ha Hd HO hz;obtain⟨j,vo,css,rfl,rfl,hj,ht,pHr,pHrl,pHa,pHd,pHO,hz⟩:=hrel;have HT:=zG ht;have Hr:Hid (aj pgE wl6 (Fr 0 [.row w.heap.size 40 1 vo j (cat css),.blk w.heap.size #[.slice (some ⟨fb,fo,none⟩) ps.length c] 26]) (.slice (some ⟨fb,fo,none⟩) ps.length c) ps):=zG pHr;have Hrl:Hid (aj eQ wl6 (Fr 0 [.row w.heap.size 40 1 vo j (cat css),.blk w.heap.size #[.slice (some ⟨fb,fo,none⟩) ps.length c] 26]) (.slice lb l.length lc) l):=zG pHrl;have Ha:Hid (aj knE wl6 (Fr w.heap.size [.row w.heap.size 40 1 vo j (cat css),.blk w.heap.size #[.slice (some ⟨fb,fo,none⟩) ps.length c] 26]) (.slice Aa l.length ca) (dG (bQ l))):=zG pHa;have Hd:Hid (aj yE wl6 (Fr w.heap.size [.row w.heap.size 40 1 vo j (cat css),.blk w.heap.size #[.slice (some ⟨fb,fo,none⟩) ps.length c] 26]) (.slice Ad l.length cd) (aU (bQ l))):=zG pHd;have HO:Hid (Held liE wl6 (Fr w.heap.size [.row w.heap.size 40 1 vo j (cat css),.blk w.heap.size #[.slice (some ⟨fb,fo,none⟩) ps.length c] 26]) css ((bQ l).take j)):=zG pHO;clear ht pHr pHrl pHa pHd pHO;obtain⟨Av,cv,rfl⟩:=bZ (HT.own 0 rfl);replace Hr:Hid (aj pgE wl6 (Fr 0 [.row w.heap.size 40 1 (.slice Av j cv) j (cat css),.blk w.heap.size #[.slice (some ⟨fb,fo,none⟩) ps.length c] 26]) (.slice (some ⟨fb,fo,none⟩) ps.length c) ps):=Hr;replace Hrl:Hid (aj eQ wl6 (Fr 0 [.row w.heap.size 40 1 (.slice Av j cv) j (cat css),.blk w.heap.size #[.slice (some ⟨fb,fo,none⟩) ps.length c] 26]) (.slice lb l.length lc) l):=Hrl;replace Ha:Hid (aj knE wl6 (Fr w.heap.size [.row w.heap.size 40 1 (.slice Av j cv) j (cat css),.blk w.heap.size #[.slice (some ⟨fb,fo,none⟩) ps.length c] 26]) (.slice Aa l.length ca) (dG (bQ l))):=Ha;replace Hd:Hid (aj yE wl6 (Fr w.heap.size [.row w.heap.size 40 1 (.slice Av j cv) j (cat css),.blk w.heap.size #[.slice (some ⟨fb,fo,none⟩) ps.length c] 26]) (.slice Ad l.length cd) (aU (bQ l))):=Hd;replace HO:Hid (Held liE wl6 (Fr w.heap.size [.row w.heap.size 40 1 (.slice Av j cv) j (cat css),.blk w.heap.size #[.slice (some ⟨fb,fo,none⟩) ps.length c] 26]) css ((bQ l).take j)):=HO;by_cases hjt:j<l.length
    ·obtain⟨e,he⟩:∃e,(bQ l)[j]?=some e:=⟨(bQ l)[j]'(by rw[Hfn.out];exact hjt),zD _⟩;obtain⟨db,dn,rfl,_,_,d0⟩:=Hd.at_y (kD he);have HX:=zG he;have i4:(j:Int)<(l.length:Int):=(by omega);have i5:(0:Int)≤(j:Int):=(by omega);rcases e with _|⟨e,es⟩
     ·replace d0:wl6.cell? ⟨db,dn+j,none⟩=some (.bool false):=d0;clear he;go_wp2_with (at_builtin;go_loud (refine aM rfl (.tmp 46) (.tmp 47) _ rfl (e:=40) (size:=1) (bytes:=24) Tryd.underlying41 infoLI rfl (by omega) HT.out 0 rfl rfl [Value.slice none 0 0] 40 rfl rfl (by simp[Value.oneCell']) (by unfold maxLen;omega) (by omega) HT.base ?next))
      case next=>
       intro A9 c9 wg T' K' hs3;clear d0;replace T':St w.heap.size w wg [.row w.heap.size 40 1 (.slice A9 (j+1) c9) (j+1) (cat (css++[[Value.slice none 0 0]])),.blk w.heap.size #[.slice (some ⟨fb,fo,none⟩) ps.length c] 26]:=T';replace K':au wl6 [.row w.heap.size 40 1 (.slice Av j cv) j (cat css),.blk w.heap.size #[.slice (some ⟨fb,fo,none⟩) ps.length c] 26] wg [.row w.heap.size 40 1 (.slice A9 (j+1) c9) (j+1) (cat (css++[[Value.slice none 0 0]])),.blk w.heap.size #[.slice (some ⟨fb,fo,none⟩) ps.length c] 26]:=K';replace HT:=zG T';replace Hr:=zG (Hr.move (by show 0<1;omega) K');replace Hrl:=zG (Hrl.move (by decide) K');replace Ha:=zG (Ha.move (by decide) K');replace HO:=zG (HO.move K');replace Hd:=zG (Hd.move (by decide) K');replace hz:w.heap.size+1≤wg.heap.size:=(by omega);clear T' K';have hnew:Held liE wg (Fr w.heap.size [.row w.heap.size 40 1 (.slice A9 (j+1) c9) (j+1) (cat (css++[[Value.slice none 0 0]])),.blk w.heap.size #[.slice (some ⟨fb,fo,none⟩) ps.length c] 26]) (css++[[Value.slice none 0 0]]) ((bQ l).take (j+1)):=by
        rw[List.take_add_one,HX.out];exact HO.append (Held.single (E:=liE) (cs:=[Value.slice none 0 0]) (x:=([]:List Int)) rfl ⟨_,rfl,rdl_nili⟩)
       replace HO:=zG hnew;clear hnew;have h_:=HT.rz 1;go_wp2_with fail;clear h_;go_roundw
       case rel=>
        refine⟨j+1,.slice A9 (j+1) c9,css++[[Value.slice none 0 0]],?_,?_,?_,HT.out,Hr.out,Hrl.out,Ha.out,Hd.out,HO.out,hz⟩
        ·go_num
        ·rfl
        ·omega
       case measure=>simp[intOf];omega
     ·replace d0:wl6.cell? ⟨db,dn+j,none⟩=some (.bool true):=d0;have h8:(e::es).length=8:=(Hfe.out _ (zF he)).elim (fun h=>by cases h) id;have hpa:=padS_at he;generalize hE:e::es=E8 at*;obtain⟨ab,ao,rfl,hsub⟩:=rd_ksub Ha.out hpa h8;have G:=fun W S (h:aj iE W S (.slice (some ⟨ab,ao+j*8,none⟩) E8.length 8) E8)=>cloneI_any S _ 8 E8 W h;rw[h8] at G;have G1:=zG G;have Hsub:=zG hsub;have H8:=zG h8;clear G hE h8 hpa he hsub;go_wp2_with fail;refine(G1.out _ _ Hsub.out).mono ?_;rintro en W7 ⟨v9,rfl,hown,hb⟩;obtain⟨Af,cf,rfl⟩:=hown.form;rw[H8.out] at hown;rw[H8.out];have hrd:=(dQ.flat (S':=fun _=>False) (fun _ _ _ _ h=>h) hown).rd.keep (S':=fun b=>(wl6).heap.size≤b) (by decide) (fun b _ h=>⟨h.elim (fun h=>h.elim) id,rfl⟩);clear hown;have Hfresh:=zG (HT.out);have hzo:w.heap.size≤wl6.heap.size:=(by omega);replace⟨HT,Hr,Hrl,HO,Hd,Ha,Hsub⟩:=sp6 (HT.call hb) Hr.s Hrl.s (mv_ HO.move) Hd.s Ha.s Hsub.s;replace hz:=Nat.le_trans hz hb.size;clear hb;have HF:Hid (aj iE W7 (Fr w.heap.size [.row w.heap.size 40 1 (.slice Av j cv) j (cat css),.blk w.heap.size #[.slice (some ⟨fb,fo,none⟩) ps.length c] 26]) (.slice Af 8 cf) E8):=zG (hrd.fresh (by first|decide|(show 0<1;omega)) Hfresh.out hzo);clear hrd;clear Hfresh hzo;have h_:=HT.rz 1;clear G1 Hsub d0;have d0:True:=trivial;clear h_;have h_:=HT.rz 1;go_wp2_with (at_builtin;go_loud (refine aM rfl (.tmp 49) (.tmp 55) _ rfl (e:=40) (size:=1) (bytes:=24) Tryd.underlying41 infoLI rfl (by omega) HT.out 0 rfl rfl [Value.slice Af 8 cf] 40 rfl rfl (by simp[Value.oneCell']) (by unfold maxLen;omega) (by omega) HT.base ?next))
      case next=>
       intro A9 c9 wg T' K' hs3;clear h_;clear d0;replace T':St w.heap.size w wg [.row w.heap.size 40 1 (.slice A9 (j+1) c9) (j+1) (cat (css++[[Value.slice Af 8 cf]])),.blk w.heap.size #[.slice (some ⟨fb,fo,none⟩) ps.length c] 26]:=T';replace K':au W7 [.row w.heap.size 40 1 (.slice Av j cv) j (cat css),.blk w.heap.size #[.slice (some ⟨fb,fo,none⟩) ps.length c] 26] wg [.row w.heap.size 40 1 (.slice A9 (j+1) c9) (j+1) (cat (css++[[Value.slice Af 8 cf]])),.blk w.heap.size #[.slice (some ⟨fb,fo,none⟩) ps.length c] 26]:=K';replace HT:=zG T';replace Hr:=zG (Hr.move (by show 0<1;omega) K');replace Hrl:=zG (Hrl.move (by decide) K');replace HO:=zG (HO.move K');replace Hd:=zG (Hd.move (by decide) K');replace Ha:=zG (Ha.move (by decide) K');replace HF:=zG (HF.move (by decide) K');replace hz:w.heap.size+1≤wg.heap.size:=(by omega);clear T' K';have hnew:Held liE wg (Fr w.heap.size [.row w.heap.size 40 1 (.slice A9 (j+1) c9) (j+1) (cat (css++[[Value.slice Af 8 cf]])),.blk w.heap.size #[.slice (some ⟨fb,fo,none⟩) ps.length c] 26]) (css++[[Value.slice Af 8 cf]]) ((bQ l).take (j+1)):=by
        rw[List.take_add_one,HX.out];exact HO.append (Held.single (E:=liE) (cs:=[Value.slice Af 8 cf]) (x:=E8) rfl ⟨_,rfl,HF.out⟩)
       replace HO:=zG hnew;clear hnew;have h_:=HT.rz 1;go_wp2_with fail;clear HF;clear h_;go_roundw
       case rel=>
        refine⟨j+1,.slice A9 (j+1) c9,css++[[Value.slice Af 8 cf]],?_,?_,?_,HT.out,Hr.out,Hrl.out,Ha.out,Hd.out,HO.out,hz⟩
        ·go_num
        ·rfl
        ·omega
       case measure=>simp[intOf];omega
    ·have hjj:j=l.length:=(by omega);have i4:¬(j:Int)<(l.length:Int):=(by omega);go_wp2_with fail;go_ret2
     unfold TypesD;rw[HE.out];subst hjj;have htk:(bQ l).take l.length=bQ l:=List.take_of_length_le (by rw[Hfn.out];exact Nat.le_refl _);have hO:=HO.out;rw[htk] at hO;have hA:=HT.iM (E:=liE) (n:=w.heap.size) 0 rfl rfl Hfn.symm hO (by rw[Hfn.out];show l.length*24≤_;omega) (Nat.le_refl _) (by show 0<1;omega);exact⟨Av,cv,by show _=Ending.returned (.tuple #[.slice Av (bQ l).length cv,.int .i64 0]);rw[Hfn.out];rfl,by rw[Hfn.out];exact hA,HT.below⟩
  ·have HE:=zG (typesP_none hp (by omega:¬(0≤kd∧kd<ps.length)));clear hp;go_wp2_with fail;refine(jg _ A c ps _ (Hu.below HT.below) Hr.out).mono ?_;rintro en W3 ⟨rfl,hb⟩;clear h_;replace⟨HT,Hr⟩:=sp1 (HT.call hb) Hr.s;replace hz:=Nat.le_trans hz hb.size;clear hb;have h_:=HT.rz 1;by_cases hk0:kd<0
   ·clear hkd;go_wp2_with fail;go_ret2
    unfold TypesD;rw[HE.out];exact⟨none,0,rfl,rdl_nil,HT.below⟩
   ·have hk1:(ps.length:Int)≤kd:=(by omega);have hk2:¬kd<0:=hk0;have hk3:decide (kd<0)=false:=(by simp;omega);clear hkd;go_wp2_with fail;go_ret2
    unfold TypesD;rw[HE.out];exact⟨none,0,rfl,rdl_nil,HT.below⟩
 ·have HE:=zG (typesP_bad (kd:=kd) hp);have hpn:(bT ps !=0)=true:=(by simpa using hp);have hpe:(bT ps==0)=false:=(by simpa using hp);clear hp;go_wp2_with fail;refine(jg _ A c ps _ (Hu.below HT.below) Hr.out).mono ?_;rintro en W2 ⟨rfl,hb⟩;clear h_;replace⟨HT,Hr⟩:=sp1 (HT.call hb) Hr.s;replace hz:=Nat.le_trans hz hb.size;clear hb;have h_:=HT.rz 1;go_wp2_with fail;go_ret2
  unfold TypesD;rw[HE.out];exact⟨none,0,rfl,rdl_nil,HT.below⟩
end
end Go.Proofs.YtdmocjnjbihloaaDoor
