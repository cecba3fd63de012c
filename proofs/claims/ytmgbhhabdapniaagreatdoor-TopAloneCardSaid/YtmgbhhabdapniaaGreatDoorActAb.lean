/- The walk of the stage's abroad. Condition: the stage is there; registers are in their bounds; heaps may be. -/
import Derived.Test.YtmgbhhabdapniaaGreatDoorActM
import Derived.Test.YtmgbhhabdapniaaGreatDoorActX
namespace Go.Proofs.YtmgbhhabdapniaaGreatDoor
open Go.RowKit
theorem infoTold:(Tryz.prog.info? 73).map (fun i=>(i.zero,i.size,i.bytes))=some (some (.agg #[.int .i64 0,.int .i64 0]),2,16):=by kernel_rfl
theorem tcs_snoc (l:List Td) (t:Td):tcs l++[[.int .i64 t.cK,.int .i64 t.n]]=tcs (l++[t]):=by simp[tcs]
set_option maxRecDepth 100000 in
set_option maxHeartbeats 8000000 in
theorem mK (B:Nat) (w0 w:World) (R0:List Res) (nk:Nat) (W:Wd) (L:Lay) (n:Nat) (a:Ac) (op x:Int) (A Bq:Nat) (hA8:A<8) (hB8:Bq<8) (hle:W.aa.length≤8) (hp5:W.prints.length≤500) (h:St B w0 w (stR true nk W L []::R0)) (hH:aA w (Fr 0 (stR true nk W L []::R0)) W L) (ha:W.aa[n]?=some a) (hf:Fit W) (hop:op=13∨op=14∨op=15∨op=17) (E9:Int) (V9:Wd) (hE9:fu W n ⟨op,A,Bq,x⟩=E9) (hW9:bU W n ⟨op,A,Bq,x⟩=V9):
  Calls Tryz.prog 119 #[.pointer (some ⟨L.head,0,none⟩),.int .i64 n,.agg #[.int .i64 op,.int .i64 (A:Nat),.int .i64 (Bq:Nat),.int .i64 x]] w fun e w'=>e= .returned (.int .i64 E9)∧jy B w0 w nk W L R0 V9 w':=by
 have hn:n<W.aa.length:=(zE.1 ha).1;have HA:=zG ha;have HF:=zG hf;have i1:(0:Int)≤(n:Int):=(by omega);have i2:(n:Int)<(W.aa.length:Int):=(by omega);have ia1:(0:Int)≤(A:Int):=(by omega);have ia2:(A:Int)<8:=(by omega);have ib1:(0:Int)≤(Bq:Int):=(by omega);have ib2:(Bq:Int)<8:=(by omega);have HE9:=zG hE9;have HW9:=zG hW9;clear ha hf hE9 hW9;have HT:=zG h;have hz:w.heap.size≤w.heap.size:=Nat.le_refl _;have HK:Hid (au w (stR true nk W L []::R0) w (stR true nk W L []::R0)):=zG au.refl;have HH:=zG hH;clear h hH;replace⟨HT,HK,HH,hz⟩:=zQ (HT.new' #[.int .i64 op,.int .i64 (A:Nat),.int .i64 (Bq:Nat),.int .i64 x] 83 w.heap.size) HK HH hz;go_enter Tryz.func119,Tryz.ntmps119
 go_upto_region 1 with fail;generalize (w.alloc (.cells #[.int .i64 op,.int .i64 (A:Nat),.int .i64 (Bq:Nat),.int .i64 x] 83))=W1 at*;obtain⟨h_,c_,x_,xrA_,xrBq_⟩:=HT.f5 1 1 HA A Bq;refine cZ (.still [0,1,2,3,4,5,6,7,8,9,10,11,12,13,14,15,16,17,18,19,20,21,22,23,24,25] (.alt (.loud 26 [0,1,2,3,4,5,6,7,8,9,10,11,12,13,14,15,16,17,18,19,20,21,22,23,24,25] (.loud 27 [0,1,2,3,4,5,6,7,8,9,10,11,12,13,14,15,16,17,18,19,20,21,22,23,24,25] (.loud 28 [13,14,15,16,17,18,19,20,21,22,23,24,25] (.loud 29 [] .done)))) (.loud 27 [0,1,2,3,4,5,6,7,8,9,10,11,12,13,14,15,16,17,18,19,20,21,22,23,24,25] (.loud 26 [0,1,2,3,4,5,6,7,8,9,10,11,12,13,14,15,16,17,18,19,20,21,22,23,24,25] (.loud 28 [13,14,15,16,17,18,19,20,21,22,23,24,25] (.loud 29 [] .done)))))) (fun a9 b9 w9=>∃(gu gv:Nat),(fun R9:List Res=>St B w0 w9 R9∧au w (stR true nk W L []::R0) w9 R9∧aA w9 (Fr 0 R9) W L∧w.heap.size≤w9.heap.size∧∃g9 g10 g11 g12 g13 g14 g15 g16 g17 g18 g19 g20 g21 g22 g23 g24 g25 g26 g27 g28 g29 g30 g31 g32 g33 g34:Value,b9=((((((((((((((((((((((((((((a9.put (some 9) g9).put (some 10) g10).put (some 11) g11).put (some 12) g12).put (some 13) g13).put (some 14) g14).put (some 15) g15).put (some 16) g16).put (some 17) g17).put (some 18) g18).put (some 19) g19).put (some 20) g20).put (some 21) g21).put (some 22) g22).put (some 23) g23).put (some 24) g24).put (some 25) g25).put (some 26) g26).put (some 27) g27).put (some 28) g28).put (some 29) g29).put (some 30) g30).put (some 31) g31).put (some 32) g32).put (some 33) g33).put (some 34) g34).put (some 7) (.pointer (some ⟨gu,0,none⟩))).put (some 8) (.pointer (some ⟨gv,0,none⟩)))) (.blk gv #[.int .i64 (a.reg (Bq:Nat)).k,.int .i64 (a.reg (Bq:Nat)).n] 88:: .blk gu #[.int .i64 (a.reg (A:Nat)).k,.int .i64 (a.reg (A:Nat)).n] 88:: .blk w.heap.size #[.int .i64 op,.int .i64 (A:Nat),.int .i64 (Bq:Nat),.int .i64 x] 83::stR true nk W L []::R0)) (by kernel_rfl) (by kernel_rfl) ?_ ?_;focus
  replace⟨HT,HK,HH,hz⟩:=zQ HT.drew' HK HH hz;clear h_ c_ x_ xrA_ xrBq_;generalize W1.drew=W3 at*;obtain⟨h_,c_,x_,xrA_,xrBq_⟩:=HT.f5 1 1 HA A Bq;clear h_ c_ x_ xrA_ xrBq_;obtain⟨h_,c_,x_,xrA_,xrBq_⟩:=HT.f5 1 1 HA A Bq;refine ts_ ?_;repeat still_step
  refine zH ?_;refine bO ?_ ?_
  ·refine tl_ ?_;go_wp2_with fail;replace⟨HT,HK,HH,hz⟩:=zQ (HT.new' #[.int .i64 0,.int .i64 0] 88 W3.heap.size) HK HH hz;clear h_ c_ x_ xrA_ xrBq_;generalize (W3.alloc (.cells #[.int .i64 0,.int .i64 0] 88))=W4 at*;obtain⟨h_,c_,x_,xrA_,xrBq_⟩:=HT.f5 2 2 HA A Bq;refine ag_ ?_;refine tl_ ?_;go_wp2_with fail;replace⟨HT,HK,HH,hz⟩:=zQ (HT.new' #[.int .i64 0,.int .i64 0] 88 W4.heap.size) HK HH hz;clear h_ c_ x_ xrA_ xrBq_;generalize (W4.alloc (.cells #[.int .i64 0,.int .i64 0] 88))=W5 at*;obtain⟨h_,c_,x_,xrA_,xrBq_⟩:=HT.f5 3 3 HA A Bq;refine ag_ ?_;refine tl_ ?_;go_wp2_with fail;clear h_ c_ x_ xrA_ xrBq_;replace⟨HT,HK,HH,hz⟩:=zQ (ns1 (HT.dt 1 (.int .i64 (a.reg (A:Nat)).k) (.int .i64 (a.reg (A:Nat)).n) rfl rfl)) HK HH hz;generalize (W5.setCell ⟨W3.heap.size,0,none⟩ (.int .i64 (a.reg (A:Nat)).k)).setCell ⟨W3.heap.size,1,none⟩ (.int .i64 (a.reg (A:Nat)).n)=W6 at*;obtain⟨h_,c_,x_,xrA_,xrBq_⟩:=HT.f5 3 3 HA A Bq;refine ag_ ?_;refine tl_ ?_;go_wp2_with fail;clear h_ c_ x_ xrA_ xrBq_;replace⟨HT,HK,HH,hz⟩:=zQ (ns0 (HT.dt 0 (.int .i64 (a.reg (Bq:Nat)).k) (.int .i64 (a.reg (Bq:Nat)).n) rfl rfl)) HK HH hz;generalize (W6.setCell ⟨W4.heap.size,0,none⟩ (.int .i64 (a.reg (Bq:Nat)).k)).setCell ⟨W4.heap.size,1,none⟩ (.int .i64 (a.reg (Bq:Nat)).n)=W7 at*;obtain⟨h_,c_,x_,xrA_,xrBq_⟩:=HT.f5 3 3 HA A Bq;refine⟨trivial,?_⟩;have hP9:=HT.perm (R':=(.blk W4.heap.size #[.int .i64 (a.reg (Bq:Nat)).k,.int .i64 (a.reg (Bq:Nat)).n] 88:: .blk W3.heap.size #[.int .i64 (a.reg (A:Nat)).k,.int .i64 (a.reg (A:Nat)).n] 88:: .blk w.heap.size #[.int .i64 op,.int .i64 (A:Nat),.int .i64 (Bq:Nat),.int .i64 x] 83::stR true nk W L []::R0)) (.refl _);refine dR ?_;refine⟨W3.heap.size,W4.heap.size,hP9.1,HK.trans (by omega) hP9.2,HH.move hP9.2,hz,?_⟩;repeat (apply Exists.intro)
   try simp only[Act.put,zA,zC,zB]
   rfl
  ·refine tl_ ?_;go_wp2_with fail;replace⟨HT,HK,HH,hz⟩:=zQ (HT.new' #[.int .i64 0,.int .i64 0] 88 W3.heap.size) HK HH hz;clear h_ c_ x_ xrA_ xrBq_;generalize (W3.alloc (.cells #[.int .i64 0,.int .i64 0] 88))=W8 at*;obtain⟨h_,c_,x_,xrA_,xrBq_⟩:=HT.f5 2 2 HA A Bq;refine ag_ ?_;refine tl_ ?_;go_wp2_with fail;replace⟨HT,HK,HH,hz⟩:=zQ (HT.new' #[.int .i64 0,.int .i64 0] 88 W8.heap.size) HK HH hz;clear h_ c_ x_ xrA_ xrBq_;generalize (W8.alloc (.cells #[.int .i64 0,.int .i64 0] 88))=W9 at*;obtain⟨h_,c_,x_,xrA_,xrBq_⟩:=HT.f5 3 3 HA A Bq;refine ag_ ?_;refine tl_ ?_;go_wp2_with fail;clear h_ c_ x_ xrA_ xrBq_;replace⟨HT,HK,HH,hz⟩:=zQ (ns0 (HT.dt 0 (.int .i64 (a.reg (A:Nat)).k) (.int .i64 (a.reg (A:Nat)).n) rfl rfl)) HK HH hz;generalize (W9.setCell ⟨W8.heap.size,0,none⟩ (.int .i64 (a.reg (A:Nat)).k)).setCell ⟨W8.heap.size,1,none⟩ (.int .i64 (a.reg (A:Nat)).n)=W10 at*;obtain⟨h_,c_,x_,xrA_,xrBq_⟩:=HT.f5 3 3 HA A Bq;refine ag_ ?_;refine tl_ ?_;go_wp2_with fail;clear h_ c_ x_ xrA_ xrBq_;replace⟨HT,HK,HH,hz⟩:=zQ (ns1 (HT.dt 1 (.int .i64 (a.reg (Bq:Nat)).k) (.int .i64 (a.reg (Bq:Nat)).n) rfl rfl)) HK HH hz;generalize (W10.setCell ⟨W3.heap.size,0,none⟩ (.int .i64 (a.reg (Bq:Nat)).k)).setCell ⟨W3.heap.size,1,none⟩ (.int .i64 (a.reg (Bq:Nat)).n)=W11 at*;obtain⟨h_,c_,x_,xrA_,xrBq_⟩:=HT.f5 3 3 HA A Bq;refine⟨trivial,?_⟩;have hP9:=HT.perm (R':=(.blk W3.heap.size #[.int .i64 (a.reg (Bq:Nat)).k,.int .i64 (a.reg (Bq:Nat)).n] 88:: .blk W8.heap.size #[.int .i64 (a.reg (A:Nat)).k,.int .i64 (a.reg (A:Nat)).n] 88:: .blk w.heap.size #[.int .i64 op,.int .i64 (A:Nat),.int .i64 (Bq:Nat),.int .i64 x] 83::stR true nk W L []::R0)) (.swap _ _ _);refine dR ?_;refine⟨W8.heap.size,W3.heap.size,hP9.1,HK.trans (by omega) hP9.2,HH.move hP9.2,hz,?_⟩;repeat (apply Exists.intro)
   try simp only[Act.put,zA,zC,zB]
   rfl
 clear h_ c_ x_ xrA_ xrBq_;intro a9 W2 hR;obtain⟨gu,gv,ht,pHK,pHH,nhz,g9,g10,g11,g12,g13,g14,g15,g16,g17,g18,g19,g20,g21,g22,g23,g24,g25,g26,g27,g28,g29,g30,g31,g32,g33,g34,rfl⟩:=hR;clear HT HK HH hz;have HT:=zG ht;have HK:=zG pHK;have HH:=zG pHH;have hz:=nhz;clear ht pHK pHH nhz;try simp only[Act.put,zA,zC,zB]
 rcases hop with rfl|rfl|rfl|rfl
 ·by_cases hk:(a.reg (A:Nat)).k=2
  ·have e1:((a.reg (A:Nat)).k !=2)=false:=(by simpa using hk);by_cases hq:(a.reg (Bq:Nat)).k=1
   ·have e2:((a.reg (Bq:Nat)).k !=1)=false:=(by simpa using hq);have HKK:=zG (show ¬((a.reg (A:Nat)).k≠2∨(a.reg (Bq:Nat)).k≠1) by omega);clear hk hq;obtain⟨sp,hsp⟩:∃sp,spoilt a.heap (a.reg (A:Nat))=sp:=⟨_,rfl⟩;have HSP:=zG hsp;clear hsp;obtain⟨h_,c_,x_,xrA_,xrBq_⟩:=HT.f5 3 3 HA A Bq;go_wp2_with fail;replace⟨HT,HK,HH⟩:=sq (HT.perm (.trans (.trans (.cons _ (.cons _ (.swap _ _ _))) (.cons _ (.swap _ _ _))) (.swap _ _ _))) HK HH hz;have G9:=sendS_any B w0 _ (.blk gv #[.int .i64 (a.reg (Bq:Nat)).k,.int .i64 (a.reg (Bq:Nat)).n] 88:: .blk gu #[.int .i64 (a.reg (A:Nat)).k,.int .i64 (a.reg (A:Nat)).n] 88:: .blk w.heap.size #[.int .i64 13,.int .i64 (A:Nat),.int .i64 (Bq:Nat),.int .i64 x] 83::R0) nk W L n a A hA8 (a.reg (Bq:Nat)).n true HT.out HH.out HA.out HF.out;rw[show spoilt a.heap (a.reg (A:Int))=sp from HSP.out] at G9;refine(G9).mono ?_;rintro en W17 ⟨rfl,L1,q1,q2,q3,q4,q5,hT,hH,hK,hs⟩;clear h_ c_ x_ xrA_ xrBq_;have K':=hK;replace HT:=zG hT;replace HK:=zG (HK.trans (by omega) K');replace HH:=zG hH;clear K' hK hT hH;replace hz:w.heap.size≤W17.heap.size:=Nat.le_trans hz hs;clear hs;clear G9;have HL1:=zG (And.intro q1 (And.intro q2 q3));clear q1 q2 q3 q4 q5
    cases sp
    ·have h_:=HT.rz 3;go_wp2_with fail;clear h_;refine zJ ?_;(iterate 3 replace⟨HT,HK,HH⟩:=sq (nd1 (HT.drop 1)) HK HH hz);obtain rfl:(0:Int)=E9:=by
      rw[←HE9.out];show _=if((W.at_ n).reg (A:Nat)).k≠2∨((W.at_ n).reg (Bq:Nat)).k≠1 then(8:Int) else if spoilt (W.at_ n).heap ((W.at_ n).reg (A:Nat)) then 8 else 0
      rw[aP HA.out,if_neg HKK.out,show spoilt a.heap (a.reg (A:Nat))=_ from HSP.out];rfl
     obtain rfl:fq W n (A:Nat) (a.reg (Bq:Nat)).n true=V9:=by
      rw[←HW9.out];show _=if((W.at_ n).reg (A:Nat)).k≠2∨((W.at_ n).reg (Bq:Nat)).k≠1 then W else fq W n (A:Nat) ((W.at_ n).reg (Bq:Nat)).n true
      rw[aP HA.out,if_neg HKK.out]
     exact⟨rfl,L1,HL1.out.1,HL1.out.2.1,HL1.out.2.2,HT.out,HH.out,HK.out,hz⟩
    ·have h_:=HT.rz 3;go_wp2_with fail;clear h_;refine zJ ?_;(iterate 3 replace⟨HT,HK,HH⟩:=sq (nd1 (HT.drop 1)) HK HH hz);obtain rfl:(8:Int)=E9:=by
      rw[←HE9.out];show _=if((W.at_ n).reg (A:Nat)).k≠2∨((W.at_ n).reg (Bq:Nat)).k≠1 then(8:Int) else if spoilt (W.at_ n).heap ((W.at_ n).reg (A:Nat)) then 8 else 0
      rw[aP HA.out,if_neg HKK.out,show spoilt a.heap (a.reg (A:Nat))=_ from HSP.out];rfl
     obtain rfl:fq W n (A:Nat) (a.reg (Bq:Nat)).n true=V9:=by
      rw[←HW9.out];show _=if((W.at_ n).reg (A:Nat)).k≠2∨((W.at_ n).reg (Bq:Nat)).k≠1 then W else fq W n (A:Nat) ((W.at_ n).reg (Bq:Nat)).n true
      rw[aP HA.out,if_neg HKK.out]
     exact⟨rfl,L1,HL1.out.1,HL1.out.2.1,HL1.out.2.2,HT.out,HH.out,HK.out,hz⟩
   ·have e2:((a.reg (Bq:Nat)).k !=1)=true:=(by simpa using hq);have HKK:=zG hq;clear hk hq;obtain⟨h_,c_,x_,xrA_,xrBq_⟩:=HT.f5 3 3 HA A Bq;go_wp2_with fail;clear h_ c_ x_ xrA_ xrBq_;refine zJ ?_;(iterate 3 replace⟨HT,HK,HH⟩:=sq (nd0 (HT.drop 0)) HK HH hz);obtain rfl:(8:Int)=E9:=by
     rw[←HE9.out];show _=if((W.at_ n).reg (A:Nat)).k≠2∨((W.at_ n).reg (Bq:Nat)).k≠1 then(8:Int) else if spoilt (W.at_ n).heap ((W.at_ n).reg (A:Nat)) then 8 else 0
     rw[aP HA.out,if_pos (.inr HKK.out)]
    obtain rfl:W=V9:=by
     rw[←HW9.out];show _=if((W.at_ n).reg (A:Nat)).k≠2∨((W.at_ n).reg (Bq:Nat)).k≠1 then W else fq W n (A:Nat) ((W.at_ n).reg (Bq:Nat)).n true
     rw[aP HA.out,if_pos (.inr HKK.out)]
    exact⟨rfl,L,rfl,rfl,rfl,HT.out,HH.out,HK.out,hz⟩
  ·have e1:((a.reg (A:Nat)).k !=2)=true:=(by simpa using hk);have HKK:=zG hk;clear hk;obtain⟨h_,c_,x_,xrA_,xrBq_⟩:=HT.f5 3 3 HA A Bq;go_wp2_with fail;clear h_ c_ x_ xrA_ xrBq_;refine zJ ?_;(iterate 3 replace⟨HT,HK,HH⟩:=sq (nd0 (HT.drop 0)) HK HH hz);obtain rfl:(8:Int)=E9:=by
    rw[←HE9.out];show _=if((W.at_ n).reg (A:Nat)).k≠2∨((W.at_ n).reg (Bq:Nat)).k≠1 then(8:Int) else if spoilt (W.at_ n).heap ((W.at_ n).reg (A:Nat)) then 8 else 0
    rw[aP HA.out,if_pos (.inl HKK.out)]
   obtain rfl:W=V9:=by
    rw[←HW9.out];show _=if((W.at_ n).reg (A:Nat)).k≠2∨((W.at_ n).reg (Bq:Nat)).k≠1 then W else fq W n (A:Nat) ((W.at_ n).reg (Bq:Nat)).n true
    rw[aP HA.out,if_pos (.inl HKK.out)]
   exact⟨rfl,L,rfl,rfl,rfl,HT.out,HH.out,HK.out,hz⟩
 ·by_cases hk:(a.reg (A:Nat)).k=2
  ·have e1:((a.reg (A:Nat)).k !=2)=false:=(by simpa using hk);by_cases hq:(a.reg (Bq:Nat)).k=1
   ·have e2:((a.reg (Bq:Nat)).k !=1)=false:=(by simpa using hq);have HKK:=zG (show ¬((a.reg (A:Nat)).k≠2∨(a.reg (Bq:Nat)).k≠1) by omega);clear hk hq;obtain⟨sp,hsp⟩:∃sp,spoilt a.heap (a.reg (A:Nat))=sp:=⟨_,rfl⟩;have HSP:=zG hsp;clear hsp;obtain⟨h_,c_,x_,xrA_,xrBq_⟩:=HT.f5 3 3 HA A Bq;go_wp2_with fail;replace⟨HT,HK,HH⟩:=sq (HT.perm (.trans (.trans (.cons _ (.cons _ (.swap _ _ _))) (.cons _ (.swap _ _ _))) (.swap _ _ _))) HK HH hz;have G9:=sendS_any B w0 _ (.blk gv #[.int .i64 (a.reg (Bq:Nat)).k,.int .i64 (a.reg (Bq:Nat)).n] 88:: .blk gu #[.int .i64 (a.reg (A:Nat)).k,.int .i64 (a.reg (A:Nat)).n] 88:: .blk w.heap.size #[.int .i64 14,.int .i64 (A:Nat),.int .i64 (Bq:Nat),.int .i64 x] 83::R0) nk W L n a A hA8 (a.reg (Bq:Nat)).n false HT.out HH.out HA.out HF.out;rw[show spoilt a.heap (a.reg (A:Int))=sp from HSP.out] at G9;refine(G9).mono ?_;rintro en W18 ⟨rfl,L1,q1,q2,q3,q4,q5,hT,hH,hK,hs⟩;clear h_ c_ x_ xrA_ xrBq_;have K':=hK;replace HT:=zG hT;replace HK:=zG (HK.trans (by omega) K');replace HH:=zG hH;clear K' hK hT hH;replace hz:w.heap.size≤W18.heap.size:=Nat.le_trans hz hs;clear hs;clear G9;have HL1:=zG (And.intro q1 (And.intro q2 q3));clear q1 q2 q3 q4 q5
    cases sp
    ·have h_:=HT.rz 3;go_wp2_with fail;clear h_;refine zJ ?_;(iterate 3 replace⟨HT,HK,HH⟩:=sq (nd1 (HT.drop 1)) HK HH hz);obtain rfl:(0:Int)=E9:=by
      rw[←HE9.out];show _=if((W.at_ n).reg (A:Nat)).k≠2∨((W.at_ n).reg (Bq:Nat)).k≠1 then(8:Int) else if spoilt (W.at_ n).heap ((W.at_ n).reg (A:Nat)) then 8 else 0
      rw[aP HA.out,if_neg HKK.out,show spoilt a.heap (a.reg (A:Nat))=_ from HSP.out];rfl
     obtain rfl:fq W n (A:Nat) (a.reg (Bq:Nat)).n false=V9:=by
      rw[←HW9.out];show _=if((W.at_ n).reg (A:Nat)).k≠2∨((W.at_ n).reg (Bq:Nat)).k≠1 then W else fq W n (A:Nat) ((W.at_ n).reg (Bq:Nat)).n false
      rw[aP HA.out,if_neg HKK.out]
     exact⟨rfl,L1,HL1.out.1,HL1.out.2.1,HL1.out.2.2,HT.out,HH.out,HK.out,hz⟩
    ·have h_:=HT.rz 3;go_wp2_with fail;clear h_;refine zJ ?_;(iterate 3 replace⟨HT,HK,HH⟩:=sq (nd1 (HT.drop 1)) HK HH hz);obtain rfl:(8:Int)=E9:=by
      rw[←HE9.out];show _=if((W.at_ n).reg (A:Nat)).k≠2∨((W.at_ n).reg (Bq:Nat)).k≠1 then(8:Int) else if spoilt (W.at_ n).heap ((W.at_ n).reg (A:Nat)) then 8 else 0
      rw[aP HA.out,if_neg HKK.out,show spoilt a.heap (a.reg (A:Nat))=_ from HSP.out];rfl
     obtain rfl:fq W n (A:Nat) (a.reg (Bq:Nat)).n false=V9:=by
      rw[←HW9.out];show _=if((W.at_ n).reg (A:Nat)).k≠2∨((W.at_ n).reg (Bq:Nat)).k≠1 then W else fq W n (A:Nat) ((W.at_ n).reg (Bq:Nat)).n false
      rw[aP HA.out,if_neg HKK.out]
     exact⟨rfl,L1,HL1.out.1,HL1.out.2.1,HL1.out.2.2,HT.out,HH.out,HK.out,hz⟩
   ·have e2:((a.reg (Bq:Nat)).k !=1)=true:=(by simpa using hq);have HKK:=zG hq;clear hk hq;obtain⟨h_,c_,x_,xrA_,xrBq_⟩:=HT.f5 3 3 HA A Bq;go_wp2_with fail;clear h_ c_ x_ xrA_ xrBq_;refine zJ ?_;(iterate 3 replace⟨HT,HK,HH⟩:=sq (nd0 (HT.drop 0)) HK HH hz);obtain rfl:(8:Int)=E9:=by
     rw[←HE9.out];show _=if((W.at_ n).reg (A:Nat)).k≠2∨((W.at_ n).reg (Bq:Nat)).k≠1 then(8:Int) else if spoilt (W.at_ n).heap ((W.at_ n).reg (A:Nat)) then 8 else 0
     rw[aP HA.out,if_pos (.inr HKK.out)]
    obtain rfl:W=V9:=by
     rw[←HW9.out];show _=if((W.at_ n).reg (A:Nat)).k≠2∨((W.at_ n).reg (Bq:Nat)).k≠1 then W else fq W n (A:Nat) ((W.at_ n).reg (Bq:Nat)).n false
     rw[aP HA.out,if_pos (.inr HKK.out)]
    exact⟨rfl,L,rfl,rfl,rfl,HT.out,HH.out,HK.out,hz⟩
  ·have e1:((a.reg (A:Nat)).k !=2)=true:=(by simpa using hk);have HKK:=zG hk;clear hk;obtain⟨h_,c_,x_,xrA_,xrBq_⟩:=HT.f5 3 3 HA A Bq;go_wp2_with fail;clear h_ c_ x_ xrA_ xrBq_;refine zJ ?_;(iterate 3 replace⟨HT,HK,HH⟩:=sq (nd0 (HT.drop 0)) HK HH hz);obtain rfl:(8:Int)=E9:=by
    rw[←HE9.out];show _=if((W.at_ n).reg (A:Nat)).k≠2∨((W.at_ n).reg (Bq:Nat)).k≠1 then(8:Int) else if spoilt (W.at_ n).heap ((W.at_ n).reg (A:Nat)) then 8 else 0
    rw[aP HA.out,if_pos (.inl HKK.out)]
   obtain rfl:W=V9:=by
    rw[←HW9.out];show _=if((W.at_ n).reg (A:Nat)).k≠2∨((W.at_ n).reg (Bq:Nat)).k≠1 then W else fq W n (A:Nat) ((W.at_ n).reg (Bq:Nat)).n false
    rw[aP HA.out,if_pos (.inl HKK.out)]
   exact⟨rfl,L,rfl,rfl,rfl,HT.out,HH.out,HK.out,hz⟩
 ·by_cases hk:(a.reg (A:Nat)).k=1
  ·have e1:((a.reg (A:Nat)).k !=1)=false:=(by simpa using hk);have HKK:=zG hk;clear hk;by_cases hl:W.prints.length<500
   ·have HL:=zG hl;have l1:(W.prints.length:Int)<500:=(by omega);clear hl;obtain⟨h_,c_,x_,xrA_,xrBq_⟩:=HT.f5 3 3 HA A Bq;go_upto_region 9 with fail;have hst:=HT.lg 3 rfl .prints (by simp);replace⟨HT,HK,HH⟩:=sw2 W2 (.row 0 73 2 (.slice L.pA W.prints.length L.pc) W.prints.length (cat (tcs W.prints)):: .blk gv #[.int .i64 (a.reg (Bq:Nat)).k,.int .i64 (a.reg (Bq:Nat)).n] 88:: .blk gu #[.int .i64 (a.reg (A:Nat)).k,.int .i64 (a.reg (A:Nat)).n] 88:: .blk w.heap.size #[.int .i64 15,.int .i64 (A:Nat),.int .i64 (Bq:Nat),.int .i64 x] 83::stR true nk W L [.prints]::R0) hst (HK.t hz) HH.s;clear h_ c_ x_ xrA_ xrBq_;obtain⟨h_,c_,x_,xrA_,xrBq_⟩:=HT.f5 3 4 HA A Bq;refine av [.still [0,1,2,3,4,5,6,7,8,9],.loud 10 [0,1,2,3,4,5],.loud 11 [0],.still [12,13,14],.loud 15 []] (by kernel_rfl) (by kernel_rfl) ?_;refine ps_ ?_;repeat still_step
    refine zH ?_;refine pl_ ?_;go_wp2_with fail;go_wp2_with fail;refine ag_ ?_;refine pl_ ?_;replace⟨HT,HK,HH,hz⟩:=zQ HT.drew' HK HH hz;refine aM rfl (.tmp 75) (.tmp 80) _ rfl (e:=73) (size:=2) (bytes:=16) Tryz.underlying27 infoTold rfl (by omega) HT.out 0 rfl rfl [.int .i64 n,.int .i64 (a.reg (A:Nat)).n] 73 rfl rfl (by simp[Value.oneCell']) (by unfold maxLen;omega) (by omega) (Nat.zero_le _) ?next
    case next=>
     intro A12 c13 W14 T' K' hs3;try rw[tcs_snoc W.prints ⟨n,(a.reg (A:Nat)).n⟩] at T' K'
     clear h_ c_ x_ xrA_ xrBq_;replace T':St B w0 W14 (.row 0 73 2 (.slice A12 (W.prints.length+1) c13) (W.prints.length+1) (cat (tcs (W.prints++[⟨n,(a.reg (A:Nat)).n⟩]))):: .blk gv #[.int .i64 (a.reg (Bq:Nat)).k,.int .i64 (a.reg (Bq:Nat)).n] 88:: .blk gu #[.int .i64 (a.reg (A:Nat)).k,.int .i64 (a.reg (A:Nat)).n] 88:: .blk w.heap.size #[.int .i64 15,.int .i64 (A:Nat),.int .i64 (Bq:Nat),.int .i64 x] 83::stR true nk W L [.prints]::R0):=T';replace K':au W2.drew (.row 0 73 2 (.slice L.pA W.prints.length L.pc) W.prints.length (cat (tcs W.prints)):: .blk gv #[.int .i64 (a.reg (Bq:Nat)).k,.int .i64 (a.reg (Bq:Nat)).n] 88:: .blk gu #[.int .i64 (a.reg (A:Nat)).k,.int .i64 (a.reg (A:Nat)).n] 88:: .blk w.heap.size #[.int .i64 15,.int .i64 (A:Nat),.int .i64 (Bq:Nat),.int .i64 x] 83::stR true nk W L [.prints]::R0) W14 (.row 0 73 2 (.slice A12 (W.prints.length+1) c13) (W.prints.length+1) (cat (tcs (W.prints++[⟨n,(a.reg (A:Nat)).n⟩]))):: .blk gv #[.int .i64 (a.reg (Bq:Nat)).k,.int .i64 (a.reg (Bq:Nat)).n] 88:: .blk gu #[.int .i64 (a.reg (A:Nat)).k,.int .i64 (a.reg (A:Nat)).n] 88:: .blk w.heap.size #[.int .i64 15,.int .i64 (A:Nat),.int .i64 (Bq:Nat),.int .i64 x] 83::stR true nk W L [.prints]::R0):=K';replace HT:=zG T';replace HK:=zG (HK.trans (by omega) K');replace HH:=zG (HH.move K');replace hz:w.heap.size≤W14.heap.size:=(by omega);clear T' K';obtain⟨h_,c_,x_,xrA_,xrBq_⟩:=HT.f5 3 4 HA A Bq;go_wp2_with fail;refine ag_ ?_;refine ps_ ?_;repeat still_step
     refine zH ?_;refine pl_ ?_;go_wp2_with fail;go_wp2_with fail;clear h_ c_ x_ xrA_ xrBq_;have hst:=HT.headPrints 4 rfl (by simp) (by simp) A12 c13 (W.prints++[(⟨n,(a.reg (A:Nat)).n⟩:Td)]);rw[show(W.prints++[(⟨n,(a.reg (A:Nat)).n⟩:Td)]).length=W.prints.length+1 by simp] at hst;replace⟨HT,HK,HH,hz⟩:=zW (W14.setCell ⟨L.head,2,none⟩ (.slice A12 (W.prints.length+1) c13)) (.row 0 73 2 (.slice A12 (W.prints.length+1) c13) (W.prints.length+1) (cat (tcs (W.prints++[⟨n,(a.reg (A:Nat)).n⟩]))):: .blk gv #[.int .i64 (a.reg (Bq:Nat)).k,.int .i64 (a.reg (Bq:Nat)).n] 88:: .blk gu #[.int .i64 (a.reg (A:Nat)).k,.int .i64 (a.reg (A:Nat)).n] 88:: .blk w.heap.size #[.int .i64 15,.int .i64 (A:Nat),.int .i64 (Bq:Nat),.int .i64 x] 83::stR true nk ((⟨W.aa,W.prints++[(⟨n,(a.reg (A:Nat)).n⟩:Td)]⟩:Wd)) ({L with pA:=A12,pc:=c13}) [.prints]::R0) hst HK HH hz;replace HH:Hid (aA ((W14.setCell ⟨L.head,2,none⟩ (.slice A12 (W.prints.length+1) c13))) (Fr 0 (.row 0 73 2 (.slice A12 (W.prints.length+1) c13) (W.prints.length+1) (cat (tcs (W.prints++[⟨n,(a.reg (A:Nat)).n⟩]))):: .blk gv #[.int .i64 (a.reg (Bq:Nat)).k,.int .i64 (a.reg (Bq:Nat)).n] 88:: .blk gu #[.int .i64 (a.reg (A:Nat)).k,.int .i64 (a.reg (A:Nat)).n] 88:: .blk w.heap.size #[.int .i64 15,.int .i64 (A:Nat),.int .i64 (Bq:Nat),.int .i64 x] 83::stR true nk ((⟨W.aa,W.prints++[(⟨n,(a.reg (A:Nat)).n⟩:Td)]⟩:Wd)) ({L with pA:=A12,pc:=c13}) [.prints]::R0)) ((⟨W.aa,W.prints++[(⟨n,(a.reg (A:Nat)).n⟩:Td)]⟩:Wd)) ({L with pA:=A12,pc:=c13})):=HH;generalize (W14.setCell ⟨L.head,2,none⟩ (.slice A12 (W.prints.length+1) c13))=W15 at*;refine⟨trivial,?_⟩;refine zI ?_;go_wp2_with fail;replace⟨HT,HK,HH⟩:=sq (ns3 (HT.plug 3 rfl ((by show _=Res.row 0 _ 2 (.slice A12 (W.prints++[(⟨n,(a.reg (A:Nat)).n⟩:Td)]).length c13) (W.prints++[(⟨n,(a.reg (A:Nat)).n⟩:Td)]).length _;rw[show(W.prints++[(⟨n,(a.reg (A:Nat)).n⟩:Td)]).length=W.prints.length+1 by simp]<;>rfl)) (by simp))) HK HH hz
     refine zJ ?_;(iterate 3 replace⟨HT,HK,HH⟩:=sq (nd0 (HT.drop 0)) HK HH hz);obtain rfl:(0:Int)=E9:=by
      rw[←HE9.out];show _=if((W.at_ n).reg (A:Nat)).k=1 then(0:Int) else 8
      rw[aP HA.out,if_pos HKK.out]
     obtain rfl:(⟨W.aa,W.prints++[(⟨n,(a.reg (A:Nat)).n⟩:Td)]⟩:Wd)=V9:=by
      rw[←HW9.out];show _=if((W.at_ n).reg (A:Nat)).k=1∧W.prints.length<500 then(⟨W.aa,W.prints++[⟨n,((W.at_ n).reg (A:Nat)).n⟩]⟩:Wd) else W
      rw[aP HA.out,if_pos ⟨HKK.out,HL.out⟩]
     exact⟨rfl,{L with pA:=A12,pc:=c13},rfl,rfl,rfl,HT.out,HH.out,HK.out,hz⟩
   ·have HL:=zG hl;have l1:¬(W.prints.length:Int)<500:=(by omega);clear hl;obtain⟨h_,c_,x_,xrA_,xrBq_⟩:=HT.f5 3 3 HA A Bq;go_wp2_with fail;clear h_ c_ x_ xrA_ xrBq_;refine zJ ?_;(iterate 3 replace⟨HT,HK,HH⟩:=sq (nd0 (HT.drop 0)) HK HH hz);obtain rfl:(0:Int)=E9:=by
     rw[←HE9.out];show _=if((W.at_ n).reg (A:Nat)).k=1 then(0:Int) else 8
     rw[aP HA.out,if_pos HKK.out]
    obtain rfl:W=V9:=by
     rw[←HW9.out];show _=if((W.at_ n).reg (A:Nat)).k=1∧W.prints.length<500 then(⟨W.aa,W.prints++[⟨n,((W.at_ n).reg (A:Nat)).n⟩]⟩:Wd) else W
     rw[aP HA.out,if_neg (fun h=>HL.out h.2)]
    exact⟨rfl,L,rfl,rfl,rfl,HT.out,HH.out,HK.out,hz⟩
  ·have e1:((a.reg (A:Nat)).k !=1)=true:=(by simpa using hk);have HKK:=zG hk;clear hk;obtain⟨h_,c_,x_,xrA_,xrBq_⟩:=HT.f5 3 3 HA A Bq;go_wp2_with fail;clear h_ c_ x_ xrA_ xrBq_;refine zJ ?_;(iterate 3 replace⟨HT,HK,HH⟩:=sq (nd0 (HT.drop 0)) HK HH hz);obtain rfl:(8:Int)=E9:=by
    rw[←HE9.out];show _=if((W.at_ n).reg (A:Nat)).k=1 then(0:Int) else 8
    rw[aP HA.out,if_neg HKK.out]
   obtain rfl:W=V9:=by
    rw[←HW9.out];show _=if((W.at_ n).reg (A:Nat)).k=1∧W.prints.length<500 then(⟨W.aa,W.prints++[⟨n,((W.at_ n).reg (A:Nat)).n⟩]⟩:Wd) else W
    rw[aP HA.out,if_neg (fun h=>HKK.out h.1)]
   exact⟨rfl,L,rfl,rfl,rfl,HT.out,HH.out,HK.out,hz⟩
 ·by_cases hk:(a.reg (Bq:Nat)).k=2
  ·have e1:((a.reg (Bq:Nat)).k !=2)=false:=(by simpa using hk);have HKK:=zG hk;clear hk;obtain⟨h_,c_,x_,xrA_,xrBq_⟩:=HT.f5 3 3 HA A Bq;go_wp2_with fail;replace⟨HT,HK,HH⟩:=sq (HT.perm (.trans (.trans (.cons _ (.cons _ (.swap _ _ _))) (.cons _ (.swap _ _ _))) (.swap _ _ _))) HK HH hz;have G9:=spawnS_any B w0 _ (.blk gv #[.int .i64 (a.reg (Bq:Nat)).k,.int .i64 (a.reg (Bq:Nat)).n] 88:: .blk gu #[.int .i64 (a.reg (A:Nat)).k,.int .i64 (a.reg (A:Nat)).n] 88:: .blk w.heap.size #[.int .i64 17,.int .i64 (A:Nat),.int .i64 (Bq:Nat),.int .i64 x] 83::R0) nk W L n a 17 x A Bq hA8 hB8 hle HT.out HH.out HA.out;refine(G9).mono ?_;rintro en W16 ⟨rfl,L1,e1,e2,e3,hT,hH,hK,hs⟩;clear h_ c_ x_ xrA_ xrBq_;have K':=hK;replace HT:=zG hT;replace HK:=zG (HK.trans (by omega) K');replace HH:=zG hH;clear K' hK hT hH;replace hz:w.heap.size≤W16.heap.size:=Nat.le_trans hz hs;clear hs;clear G9;have HL1:=zG (And.intro e1 (And.intro e2 e3));clear e1 e2 e3;have h_:=HT.rz 3;go_wp2_with fail;clear h_;refine zJ ?_;(iterate 3 replace⟨HT,HK,HH⟩:=sq (nd1 (HT.drop 1)) HK HH hz);obtain rfl:eD W n ⟨17,A,Bq,x⟩=E9:=by
    rw[←HE9.out];show _=if((W.at_ n).reg (Bq:Nat)).k≠2 then(8:Int) else eD W n ⟨17,A,Bq,x⟩
    rw[aP HA.out,if_neg (fun h=>h HKK.out)]
   obtain rfl:eG W n ⟨17,A,Bq,x⟩=V9:=by
    rw[←HW9.out];show _=if((W.at_ n).reg (Bq:Nat)).k≠2 then W else eG W n ⟨17,A,Bq,x⟩
    rw[aP HA.out,if_neg (fun h=>h HKK.out)]
   exact⟨rfl,L1,HL1.out.1,HL1.out.2.1,HL1.out.2.2,HT.out,HH.out,HK.out,hz⟩
  ·have e1:((a.reg (Bq:Nat)).k !=2)=true:=(by simpa using hk);have HKK:=zG hk;clear hk;obtain⟨h_,c_,x_,xrA_,xrBq_⟩:=HT.f5 3 3 HA A Bq;go_wp2_with fail;clear h_ c_ x_ xrA_ xrBq_;refine zJ ?_;(iterate 3 replace⟨HT,HK,HH⟩:=sq (nd0 (HT.drop 0)) HK HH hz);obtain rfl:(8:Int)=E9:=by
    rw[←HE9.out];show _=if((W.at_ n).reg (Bq:Nat)).k≠2 then(8:Int) else eD W n ⟨17,A,Bq,x⟩
    rw[aP HA.out,if_pos HKK.out]
   obtain rfl:W=V9:=by
    rw[←HW9.out];show _=if((W.at_ n).reg (Bq:Nat)).k≠2 then W else eG W n ⟨17,A,Bq,x⟩
    rw[aP HA.out,if_pos HKK.out]
   exact⟨rfl,L,rfl,rfl,rfl,HT.out,HH.out,HK.out,hz⟩
end Go.Proofs.YtmgbhhabdapniaaGreatDoor
