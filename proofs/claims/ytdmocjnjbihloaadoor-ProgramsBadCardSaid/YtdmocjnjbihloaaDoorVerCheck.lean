/- The walk of verify.Check. Condition: the table of operators is as the program's text lays it. -/
import Derived.Test.YtdmocjnjbihloaaDoorFlow
import Derived.Test.YtdmocjnjbihloaaDoorCodeC
import Derived.Test.YtdmocjnjbihloaaDoorDecL
namespace Go.Proofs.YtdmocjnjbihloaaDoor
open Go.RowKit
theorem rd_yat {w:World} {S:Nat→Prop} {b o n c:Nat} {xs:List Bool} (h:aj yE w S (.slice (some ⟨b,o,none⟩) n c) xs) {i:Nat} {x:Bool} (hx:xs[i]?=some x):w.cell? ⟨b,o+i,none⟩=some (.bool x):=by
 obtain⟨b',o',e,_,_,y⟩:=h.at_y hx;injection e with e
 injection e with e1 e2
 subst e1 e2;exact y
theorem rd_kat {w:World} {S:Nat→Prop} {A:Option Addr} {n c:Nat} {ks:List (List Int)} (h:aj knE w S (.slice A n c) ks) {i:Nat} {x0 x1 x2 x3 x4 x5 x6 x7:Int} (hx:ks[i]?=some [x0,x1,x2,x3,x4,x5,x6,x7]):
  ∃b o,A=some ⟨b,o,none⟩∧w.cell? ⟨b,o+i*8,none⟩=some (.int .i64 x0)∧w.cell? ⟨b,o+i*8+1,none⟩=some (.int .i64 x1)∧w.cell? ⟨b,o+i*8+2,none⟩=some (.int .i64 x2)∧w.cell? ⟨b,o+i*8+3,none⟩=some (.int .i64 x3)∧
   w.cell? ⟨b,o+i*8+4,none⟩=some (.int .i64 x4)∧w.cell? ⟨b,o+i*8+5,none⟩=some (.int .i64 x5)∧w.cell? ⟨b,o+i*8+6,none⟩=some (.int .i64 x6)∧w.cell? ⟨b,o+i*8+7,none⟩=some (.int .i64 x7):=by
 obtain⟨b,o,cs,hA,_,_,⟨rfl,_⟩,hc⟩:=h.at_ hx;exact⟨b,o,hA,hc 0 _ rfl,hc 1 _ rfl,hc 2 _ rfl,hc 3 _ rfl,hc 4 _ rfl,hc 5 _ rfl,hc 6 _ rfl,hc 7 _ rfl⟩
set_option maxRecDepth 100000 in
set_option maxHeartbeats 8000000 in
theorem lH (S:Nat→Prop) (A:Option Addr) (c:Nat) (ps:List (List Ins)) (w:World) (hu:dV w) (hr:aj pgE w S (.slice A ps.length c) ps):
  Calls Tryd.prog 21 #[.agg #[.slice A ps.length c]] w fun e w'=>e= .returned (.tuple #[.int .i64 (jf ps).1,.int .i64 (jf ps).2.1,.int .i64 (jf ps).2.2])∧Below w.heap.size w w':=by
 obtain⟨-,hc1,hc2,hc3⟩:=hr.fw;have Hu:=zG hu;have Hr:=zG hr;clear hr hu hc3;have T0:St w.heap.size w ((w.alloc (.cells #[.slice A ps.length c] 26))) [.blk w.heap.size #[.slice A ps.length c] 26]:=((St.start w (Nat.le_refl _)).new' #[.slice A ps.length c] 26 (w.heap.size) (by simp)).1;have HT:=zG T0;have hz:w.heap.size+1≤(w.alloc (.cells #[.slice A ps.length c] 26)).heap.size:=(by simp);clear T0;replace Hr:Hid (aj pgE ((w.alloc (.cells #[.slice A ps.length c] 26))) (Fr 0 [.blk w.heap.size #[.slice A ps.length c] 26]) (.slice A ps.length c) ps):=zG (aj.pool (E:=pgE) Hr.out (by show 0<1;omega) HT.out);go_enter Tryd.func21,Tryd.ntmps21
 go_upto_region 1 with fail;generalize (w.alloc (.cells #[.slice A ps.length c] 26))=W1 at*;have h_:=HT.rz 1;by_cases hp:bT ps=0
 ·have hpn:(bT ps !=0)=false:=(by simpa using hp);have Hp:=zG hp;have Hok:=zG (progF_fl hp);clear hp;go_wp2_with fail;refine(jg _ A c ps _ (Hu.below HT.below) Hr.out).mono ?_;rintro en W3 ⟨rfl,hb⟩;clear h_;replace⟨HT,Hr⟩:=sp1 (HT.call hb) Hr.s;replace hz:=Nat.le_trans hz hb.size;clear hb;have h_:=HT.rz 1;go_wp2_with fail;go_loopw [20] (fun i wl4=>∃k:Nat,i= .int .i64 k∧k≤ps.length∧(∀j l,j<k→ps[j]?=some l→nt l=none)∧St w.heap.size w wl4 [.blk w.heap.size #[.slice A ps.length c] 26]∧aj pgE wl4 (Fr 0 [.blk w.heap.size #[.slice A ps.length c] 26]) (.slice A ps.length c) ps∧w.heap.size+1≤wl4.heap.size) (fun i _=>ps.length - (intOf i).toNat)
  case atStart=>
   refine⟨0,?_,?_,?_,HT.out,Hr.out,hz⟩
   ·rfl
   ·exact Nat.zero_le _
   ·exact fun j l h=>absurd h (by omega)
  case round=>
   generalize wr=wl4 at*;clear HT Hr hz;obtain⟨k,rfl,hk,hbk,ht,pHr,hz⟩:=hrel;have HT:=zG ht;have Hr:Hid (aj pgE wl4 (Fr 0 [.blk w.heap.size #[.slice A ps.length c] 26]) (.slice A ps.length c) ps):=zG pHr;clear ht pHr;have Hbk:=zG hbk;clear hbk;by_cases hlt:k<ps.length
   ·obtain⟨l,hl⟩:∃l,ps[k]?=some l:=⟨ps[k],zD hlt⟩;obtain⟨fb,fo,lb,lc,rfl,_,_,y0,hrl⟩:=Hr.at_s hl;have Hfl:=zG (Hok.out.2.2 l (zF hl));have Hfl1:=Hfl.one;have Hfl6:=Hfl.few;have HL:=zG hl;have Hrl:=zG hrl;have i1:(0:Int)≤(k:Int):=(by omega);have i2:(k:Int)<(ps.length:Int):=(by omega);clear hl hrl;replace Hrl:Hid (aj eQ wl4 (Fr 0 [.blk w.heap.size #[.slice (some ⟨fb,fo,none⟩) ps.length c] 26]) (.slice lb l.length lc) l):=Hrl;have h_:=HT.rz 1;go_wp2_with fail;refine(flow_any _ lb lc l Hfl.out _ Hrl.out).mono ?_;rintro en W5 ⟨Aa,ca,Ad,cd,rfl,hra,hrd,hb⟩;clear h_;have Hfresh:=zG (HT.out);have hzo:w.heap.size≤wl4.heap.size:=(by omega);replace⟨HT,Hr,Hrl⟩:=sp2 (HT.call hb) Hr.s Hrl.s;replace hz:=Nat.le_trans hz hb.size;clear hb;have Ha:=zG (hra.fresh (by first|decide|(show 0<1;omega)) Hfresh.out hzo);clear hra;have Hd:=zG (hrd.fresh (by first|decide|(show 0<1;omega)) Hfresh.out hzo);clear hrd;clear Hfresh hzo;have h_:=HT.rz 1;clear y0;have Hfe:=zG (nN l);have Hfn:=zG (rO (l:=l) (by intro h;rw[h] at Hfl1;exact absurd Hfl1 (by decide)));go_wp2_with fail;go_loopw [32] (fun i wl6=>∃j:Nat,(fun R9:List Res=>i= .int .i64 j∧j≤l.length∧(∀i,i<j→badI l i=false)∧St w.heap.size w wl6 R9∧aj pgE wl6 (Fr 0 R9) (.slice (some ⟨fb,fo,none⟩) ps.length c) ps∧aj eQ wl6 (Fr 0 R9) (.slice lb l.length lc) l∧aj knE wl6 (Fr w.heap.size R9) (.slice Aa l.length ca) (dG (bQ l))∧aj yE wl6 (Fr w.heap.size R9) (.slice Ad l.length cd) (aU (bQ l))∧w.heap.size+1≤wl6.heap.size) [.blk w.heap.size #[.slice (some ⟨fb,fo,none⟩) ps.length c] 26]) (fun i _=>l.length - (intOf i).toNat)
    case atStart=>
     refine⟨0,?_,?_,?_,HT.out,Hr.out,Hrl.out,Ha.out,Hd.out,hz⟩
     ·rfl
     ·exact Nat.zero_le _
     ·exact fun i h=>absurd h (by omega)
    case round=>
     generalize wr=wl6 at*;clear HT Hr Hrl Ha Hd hz;obtain⟨j,rfl,hj,hbj,ht,pHr,pHrl,pHa,pHd,hz⟩:=hrel;have HT:=zG ht;have Hr:Hid (aj pgE wl6 (Fr 0 [.blk w.heap.size #[.slice (some ⟨fb,fo,none⟩) ps.length c] 26]) (.slice (some ⟨fb,fo,none⟩) ps.length c) ps):=zG pHr;have Hrl:Hid (aj eQ wl6 (Fr 0 [.blk w.heap.size #[.slice (some ⟨fb,fo,none⟩) ps.length c] 26]) (.slice lb l.length lc) l):=zG pHrl;have Ha:Hid (aj knE wl6 (Fr w.heap.size [.blk w.heap.size #[.slice (some ⟨fb,fo,none⟩) ps.length c] 26]) (.slice Aa l.length ca) (dG (bQ l))):=zG pHa;have Hd:Hid (aj yE wl6 (Fr w.heap.size [.blk w.heap.size #[.slice (some ⟨fb,fo,none⟩) ps.length c] 26]) (.slice Ad l.length cd) (aU (bQ l))):=zG pHd;clear ht pHr pHrl pHa pHd;have Hbj:=zG hbj;clear hbj;by_cases hjt:j<l.length
     ·obtain⟨x,hx⟩:∃x,l[j]?=some x:=⟨l[j],zD hjt⟩;obtain⟨xb,xo,rfl,_,_,x0,x1,x2,x3⟩:=Hrl.at_n hx;obtain⟨op,xn,ra,rb,rfl,hop,hra,hrb⟩:=(Hfl.ins j x hx).nat;obtain⟨e,he⟩:∃e,(bQ l)[j]?=some e:=⟨(bQ l)[j]'(by rw[Hfn.out];exact hjt),zD _⟩;obtain⟨db,dn,rfl,_,_,d0⟩:=Hd.at_y (kD he);have HX:=zG hx;have i3:(0:Int)≤(j:Int):=(by omega);have i4:(j:Int)<(l.length:Int):=(by omega);clear hx;replace Hrl:Hid (aj eQ wl6 (Fr 0 [.blk w.heap.size #[.slice (some ⟨fb,fo,none⟩) ps.length c] 26]) (.slice (some ⟨xb,xo,none⟩) l.length lc) l):=Hrl;go_upto_region 11 with fail;replace⟨HT,Hr,Ha,Hrl,Hd⟩:=sp4 (HT.new' #[.int .i64 op,.int .i64 ra,.int .i64 rb,.int .i64 xn] 58 wl6.heap.size) Hr.s Ha.s Hrl.s Hd.s;replace hz:=HT.zz hz;generalize (wl6.alloc (.cells #[.int .i64 op,.int .i64 ra,.int .i64 rb,.int .i64 xn] 58))=W7 at*;clear x0 x1 x2 x3 d0;have d0:=rd_yat Hd.out (kD he);have h_:=HT.rz 1;rcases e with _|⟨e,es⟩
      ·replace d0:W7.cell? ⟨db,dn+j,none⟩=some (.bool false):=d0;have HB:=zG (badI_none he);have HN:Hid (∀i,i<j+1→badI l i=false):=zG (fun i hi=>by
        by_cases hij:i=j
        ·rw[hij];exact HB.out
        ·exact Hbj.out i (by omega))
       clear he;go_wp2_with fail;go_quiet (fail)
       clear h_;clear d0;replace⟨HT,Hr,Ha,Hrl,Hd⟩:=sp4 (HT.drewN9 nq) Hr.s Ha.s Hrl.s Hd.s;replace hz:=HT.zz hz;generalize (W7.drewN nq)=W8 at*;replace⟨HT,Hr,Ha,Hrl,Hd⟩:=sp4 (nd0 (HT.drop 0)) Hr.s Ha.s Hrl.s Hd.s;go_wp2_with fail;go_roundw
       case rel=>
        refine⟨j+1,?_,?_,HN.out,HT.out,Hr.out,Hrl.out,Ha.out,Hd.out,hz⟩
        ·go_num
        ·omega
       case measure=>simp[intOf];omega
      ·replace d0:W7.cell? ⟨db,dn+j,none⟩=some (.bool true):=d0;have h8:(e::es).length=8:=(Hfe.out _ (zF he)).elim (fun h=>by cases h) id;have hB:=badI_some he HX.out;have hpa:=padS_at he;obtain⟨k0,k1,k2,k3,k4,k5,k6,k7,hE⟩:=eight h8;rw[hE] at hB hpa;obtain⟨m,hm⟩:∃m,mayB [k0,k1,k2,k3,k4,k5,k6,k7] ⟨op,ra,rb,xn⟩=m:=⟨_,rfl⟩;rw[hm] at hB;have G:=fun W=>right_any [k0,k1,k2,k3,k4,k5,k6,k7] rfl op xn ra rb hop hra hrb W;rw[hm] at G;have G1:Hid (∀W,Calls Tryd.prog 47 #[.agg #[.int .i64 k0,.int .i64 k1,.int .i64 k2,.int .i64 k3,.int .i64 k4,.int .i64 k5,.int .i64 k6,.int .i64 k7],.agg #[.int .i64 op,.int .i64 ra,.int .i64 rb,.int .i64 xn]] W fun en W'=>en= .returned (.bool m)∧Below W.heap.size W W'):=zG G;obtain⟨ab,ao,rfl,z0,z1,z2,z3,z4,z5,z6,z7⟩:=rd_kat Ha.out hpa;have HB0:=zG hB;have Hpa:=zG hpa;clear G hE h8 hm hB hpa he
       cases m
       ·have HE:=zG (verP_no Hp.out HL.out (badL_some hjt HB0.out Hbj.out) Hbk.out);go_wp2_with fail;refine av [.still [0,1,2,3,4,5,6,7,8,9],.loud 10 [],.still [11,12]] (by kernel_rfl) (by kernel_rfl) ?_;refine ps_ ?_;repeat still_step
        refine zH ?_;refine pl_ ?_;go_wp2_with fail;replace⟨HT,Hr,Hrl,Hd,Ha⟩:=sp4 HT.drew' Hr.s Hrl.s Hd.s Ha.s;replace hz:=HT.zz hz;refine(G1.out _).mono ?_;rintro en W11 ⟨rfl,hb⟩;clear h_;replace⟨HT,Hr,Hrl,Hd,Ha⟩:=sp4 (HT.call hb) Hr.s Hrl.s Hd.s Ha.s;replace hz:=Nat.le_trans hz hb.size;clear hb;clear d0 z0 z1 z2 z3 z4 z5 z6 z7;go_wp2_with fail;refine⟨trivial,?_⟩;refine ps_ ?_;repeat still_step
        refine zH ?_;refine zI ?_;generalize W11=W12 at*;go_wp2_with fail;go_ret3
        rw[HE.out];exact⟨rfl,HT.below⟩
       ·have HB:Hid (badI l j=false):=HB0;have HN:Hid (∀i,i<j+1→badI l i=false):=zG (fun i hi=>by
         by_cases hij:i=j
         ·rw[hij];exact HB.out
         ·exact Hbj.out i (by omega))
        go_wp2_with fail;refine av [.still [0,1,2,3,4,5,6,7,8,9],.loud 10 [],.still [11,12]] (by kernel_rfl) (by kernel_rfl) ?_;refine ps_ ?_;repeat still_step
        refine zH ?_;refine pl_ ?_;go_wp2_with fail;replace⟨HT,Hr,Hrl,Hd,Ha⟩:=sp4 HT.drew' Hr.s Hrl.s Hd.s Ha.s;replace hz:=HT.zz hz;refine(G1.out _).mono ?_;rintro en W9 ⟨rfl,hb⟩;clear h_;replace⟨HT,Hr,Hrl,Hd,Ha⟩:=sp4 (HT.call hb) Hr.s Hrl.s Hd.s Ha.s;replace hz:=Nat.le_trans hz hb.size;clear hb;clear d0 z0 z1 z2 z3 z4 z5 z6 z7;go_wp2_with fail;refine⟨trivial,?_⟩;refine ps_ ?_;repeat still_step
        refine zH ?_;refine zI ?_;generalize W9=W10 at*;clear Hpa G1;go_wp2_with fail;replace⟨HT,Hr,Hrl,Hd,Ha⟩:=sp4 (nd0 (HT.drop 0)) Hr.s Hrl.s Hd.s Ha.s;go_roundw
        case rel=>
         refine⟨j+1,?_,?_,HN.out,HT.out,Hr.out,Hrl.out,Ha.out,Hd.out,hz⟩
         ·go_num
         ·omega
        case measure=>simp[intOf];omega
     ·have hN:=badL_none (l:=l) (fun i hi=>Hbj.out i (by omega));have HN:Hid (∀j l,j<k+1→ps[j]?=some l→nt l=none):=zG (fun i l2 hi h2=>by
       by_cases hik:i=k
       ·subst hik;rw[HL.out] at h2;injection h2 with h2;rw[←h2];exact hN
       ·exact Hbk.out i l2 (by omega) h2)
      have i4:¬(j:Int)<(l.length:Int):=(by omega);clear hN;go_wp2_with fail;clear Hrl Ha Hd;go_roundw
      case rel=>
       refine⟨k+1,?_,?_,HN.out,HT.out,Hr.out,hz⟩
       ·go_num
       ·omega
      case measure=>simp[intOf];omega
   ·have hE:=verP_ok Hp.out (fun l hl=>by obtain⟨j,hj⟩:=List.getElem?_of_mem hl;exact Hbk.out j l (by have:=(zE.1 hj).1;omega) hj);have HE:=zG hE;have i2:¬(k:Int)<(ps.length:Int):=(by omega);clear hE;go_wp2_with fail;go_ret3
    rw[HE.out];exact⟨rfl,HT.below⟩
 ·have HE:=zG (verP_bad hp);have hpn:(bT ps !=0)=true:=(by simpa using hp);clear hp;go_wp2_with fail;refine(jg _ A c ps _ (Hu.below HT.below) Hr.out).mono ?_;rintro en W2 ⟨rfl,hb⟩;clear h_;replace⟨HT,Hr⟩:=sp1 (HT.call hb) Hr.s;replace hz:=Nat.le_trans hz hb.size;clear hb;have h_:=HT.rz 1;go_wp2_with fail;go_ret3
  rw[HE.out];exact⟨rfl,HT.below⟩
end Go.Proofs.YtdmocjnjbihloaaDoor
