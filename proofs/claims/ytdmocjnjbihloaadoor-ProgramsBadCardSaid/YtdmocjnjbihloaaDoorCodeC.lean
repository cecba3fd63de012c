/- The walks of the stage's methods. Condition: what the stage is. The table of operators, as the program's text lays it, in memory. No condition. Plain laws of the first fault of a program. No condition. The walks of code.Check and what it calls, over the table of operators, and of the document's answer to it. Condition: the table holds what the program's text lays there. The walk of code.Check. Condition: the table of operators holds what the program's text lays there. -/
import Derived.Test.YtdmocjnjbihloaaDoorStage
import Derived.Test.YtdmocjnjbihloaaDoorSpecE
import Derived.Test.YtdmocjnjbihloaaDoorHeapB
import Derived.Test.YtdmocjnjbihloaaDoorActCopy
import Derived.Deep.CutRange
import Derived.Deep.Light
namespace Go.Proofs.YtdmocjnjbihloaaDoor
section
open Go.RowKit
theorem ni (nk:Nat) (W:Wd) (L:Lay) (n:Int) (w:World) (hS:aW true nk W L [] w):Calls Tryd.prog 89 #[.pointer (some ⟨L.head,0,none⟩),.int .i64 n] w fun e w'=>e= .returned (.bool (gH W n))∧w=w':=by
 obtain⟨-,c1,-,f1,-⟩:=hS.headc (by simp);by_cases h0:0≤n∧n<W.aa.length
 ·obtain⟨k,rfl⟩:=Int.eq_ofNat_of_zero_le h0.1;have hk:k<W.aa.length:=(by omega);obtain⟨-,-,-,-,-,-,-,x7,fz,-⟩:=hS.acts (iJ hk) (by simp);have i1:(0:Int)≤(k:Int):=(by omega);have i2:(k:Int)<(W.aa.length:Int):=(by omega);have hL:gH W (k:Int)=((W.at_ k).fin==0):=by
   unfold gH;rw[Int.toNat_natCast];simp[hk]
  rw[hL];generalize (W.at_ k).fin=x at*;clear h0 hL hS;go_enter Tryd.func89,Tryd.ntmps89
  go_wp2
  go_ret
  exact⟨rfl,rfl⟩
 ·have hL:gH W n=false:=by
   unfold gH;by_cases h1:0≤n
   ·have h2:¬n<W.aa.length:=fun h=>h0 ⟨h1,h⟩;simp[h2]
   ·simp[h1]
  rw[hL];by_cases h1:0≤n
  ·have h2:¬n<(W.aa.length:Int):=fun h=>h0 ⟨h1,h⟩;have h3:decide (n<(W.aa.length:Int))=false:=(by simpa using h2);clear h0 hL hS;go_enter Tryd.func89,Tryd.ntmps89
   go_wp2
   go_ret
   exact⟨rfl,rfl⟩
  ·clear h0 hL hS;go_enter Tryd.func89,Tryd.ntmps89
   go_wp2
   go_ret
   exact⟨rfl,rfl⟩
end
section
open Go.RowKit
def dV (w:World):Prop:=∀(i:Nat) (u:Int),usesT[i]?=some u→w.cell? ⟨0,i,none⟩=some (.int .i64 u)
theorem dV.keep {w w':World} (h:dV w) (hk:w'.heap[0]?=w.heap[0]?):dV w':=fun i u hu=>(cell_keep hk).trans (h i u hu)
theorem dV.lt {w:World} (h:dV w):0<w.heap.size:=lt_of_cell (h 0 0 rfl)
theorem dV.below {w w':World} (h:dV w) (hb:Below w.heap.size w w'):dV w':=h.keep (hb.block _ h.lt)
theorem dV.alloc {w:World} (h:dV w) (o:Obj):dV (w.alloc o):=h.keep (Below.heap_alloc _ _ _ h.lt)
end
section
theorem progF_at {ps:List (List Ins)} {k:Nat} {x:List Ins} {r:Int} (hx:ps[k]?=some x) (h0:ps.length≠0) (h6:ps.length≤6) (hp:gp ((ps.map (codeF ps.length)).take k)=0) (hr:codeF ps.length x=r) (hne:r≠0):bT ps=r:=by
 unfold bT;rw[if_neg h0,if_neg (by omega)];exact rP hne (by rw[kinds_at hx,hr]) hp
theorem progF_end {ps:List (List Ins)} (h0:ps.length≠0) (h6:ps.length≤6) (hp:gp (ps.map (codeF ps.length))=0):bT ps=0:=by
 unfold bT;rw[if_neg h0,if_neg (by omega)];exact hp
theorem codeF_at {n:Int} {x:List Ins} {j:Nat} {i:Ins} {r:Int} (hi:x[j]?=some i) (h0:x.length≠0) (h6:x.length≤60) (hp:gp ((rowF n x).take j)=0) (hr:insF n x.length j i=r) (hne:r≠0):codeF n x=r:=by
 unfold codeF;rw[if_neg (by omega)];exact rP hne (by rw[qJ hi,hr]) hp
theorem codeF_end {n:Int} {x:List Ins} (h0:x.length≠0) (h6:x.length≤60) (hp:gp (rowF n x)=0):codeF n x=0:=by
 unfold codeF;rw[if_neg (by omega)];exact hp
end
section
open Go.RowKit
set_option maxHeartbeats 1000000 in
theorem bounds_any (op:Int) (w:World):Calls Tryd.prog 82 #[.int .i64 op] w fun e w'=>e= .returned (.tuple #[.int .i64 (lowN op),.int .i64 (ov op)])∧w=w':=by
 go_enter Tryd.func82,Tryd.ntmps82
 go_wp2
 all_goals
  refine bodyPost_ret (v:= .tuple #[.int .i64 (lowN op),.int .i64 (ov op)]) ?_ rfl ⟨rfl,rfl⟩;simp_all [results,Tryd.results82,go_sem,lowN,ov]<;>omega
theorem insF_range {kinds len at_:Int} {i:Ins} (h:i.op<0∨19<i.op):insF kinds len at_ i=3:=by unfold insF;rw[if_pos h]
theorem uses_six {op:Int} (h:¬(op<0∨19<op)):∃u:Int,usesT[op.toNat]?=some u∧((u=0∧aB op=false∧bB op=false∧nB op=false)∨(u=1∧aB op=true∧bB op=false∧nB op=false)∨(u=3∧aB op=true∧bB op=true∧nB op=false)∨
  (u=4∧aB op=false∧bB op=false∧nB op=true)∨(u=5∧aB op=true∧bB op=false∧nB op=true)∨(u=7∧aB op=true∧bB op=true∧nB op=true)):=by
 rcases op_cases h with rfl|rfl|rfl|rfl|rfl|rfl|rfl|rfl|rfl|rfl|rfl|rfl|rfl|rfl|rfl|rfl|rfl|rfl|rfl|rfl<;>exact⟨_,rfl,by decide⟩
set_option maxHeartbeats 4000000 in
theorem check_op (kinds len at_:Nat) (P L:Option Addr) (c d:Nat) (i:Ins) (w:World) (hu:dV w) (hl:len≤60) (ha:at_<len):
  Calls Tryd.prog 63 #[.agg #[.slice P kinds c],.slice L len d,.int .i64 at_,.agg #[.int .i64 i.op,.int .i64 i.a,.int .i64 i.b,.int .i64 i.n]] w
   fun e w'=>e= .returned (.int .i64 (insF kinds len at_ i))∧Below w.heap.size w w':=by
 obtain⟨op,a,b,n⟩:=i;dsimp only;have hB:∀x y z t:Int,Below w.heap.size w ((w.alloc (.cells #[.slice P kinds c] 26)).alloc (.cells #[.int .i64 x,.int .i64 y,.int .i64 z,.int .i64 t] 58)):=fun _ _ _ _=>((Below.refl _ _).alloc (Nat.le_refl _) _).alloc (by simp) _;by_cases hr:op<0∨19<op
 ·have hE:=zG (insF_range (kinds:=kinds) (len:=len) (at_:=at_) (i:=⟨op,a,b,n⟩) hr);clear hu;go_enter Tryd.func63,Tryd.ntmps63
  go_wp2_with fail;all_goals (first|(exfalso;omega)|skip)
  all_goals
   go_ret
   exact⟨ret_int hE.symm,hB _ _ _ _⟩
 ·obtain⟨u,hu1,hu2⟩:=uses_six hr;obtain⟨k,rfl⟩:=Int.eq_ofNat_of_zero_le (show 0≤op by omega);have cu:((w.alloc (.cells #[.slice P kinds c] 26)).alloc (.cells #[.int .i64 (k:Int),.int .i64 a,.int .i64 b,.int .i64 n] 58)).cell? ⟨0,k,none⟩=some (.int .i64 u):=((hu.alloc _).alloc _) _ _ hu1;have hlt:=hu.lt;have k1:(0:Int)≤k:=(by omega);have k2:(k:Int)<20:=(by omega);have hb1:(decide ((k:Int)<0))=false:=(by simp);have hb2:(decide ((19:Int)<(k:Int)))=false:=(by simp;omega);have G1:=zG (fun W=>bounds_any (k:Int) W);have hE:insF kinds len at_ ⟨k,a,b,n⟩=if a<0∨8≤a∨b<0∨8≤b∨n<lowN k∨ov k<n then 2 else if(aB k=false∧a≠0)∨(bB k=false∧b≠0) then 4 else
   if((k:Int)=5∨(k:Int)=6)∧((at_:Int)+n<0∨(len:Int)≤(at_:Int)+n) then 2 else if(k:Int)=17∧(kinds:Int)≤n then 2 else if(at_:Int)=(len:Int) - 1∧(k:Int)≠0∧(k:Int)≠19∧(k:Int)≠6 then 5 else 0:=by
   unfold insF;rw[if_neg hr]
  have hlo: -1099511627776≤lowN k:=by unfold lowN;repeat' split<;>omega
  have hhi:ov k≤1099511627776:=by unfold ov;repeat' split<;>omega
  generalize lowN k=lo at*;generalize ov k=hi at*;generalize insF kinds len at_ ⟨k,a,b,n⟩=r at*;clear hu hu1 hr;have HE:=zG hE;have HU:=zG hu2;have HL:=zG (((dD.nil (w:=w)).new (cs:=#[.slice P kinds c]) (t:=26) rfl).new (cs:=#[.int .i64 (k:Int),.int .i64 a,.int .i64 b,.int .i64 n]) (t:=58) (n:=w.heap.size+1) (by simp));have hb:=hB (k:Int) a b n;clear hE hu2 hB;go_enter Tryd.func63,Tryd.ntmps63
  go_upto_region 1 with fail;generalize (w.alloc (.cells #[.slice P kinds c] 26)).alloc (.cells #[.int .i64 (k:Int),.int .i64 a,.int .i64 b,.int .i64 n] 58)=W at*;obtain⟨r7,-,r4,-⟩:=HL.rules;dsimp only at r7 r4;go_wp2_with fail;refine(G1.out _).mono ?_;rintro e w' ⟨rfl,rfl⟩;go_upto_region 4 with fail;go_cut [56] from 27 to 56 (fun s wx=>s= .bool (decide (a<0∨8≤a∨b<0∨8≤b∨n<lo∨hi<n))∧wx=W)
  case first=>
   go_wp2_with fail;all_goals
    go_meet
    exact⟨by congr 1;rw[Bool.eq_iff_iff];simp;omega,rfl⟩
  case rest=>
  obtain⟨rfl,hwc⟩:=hcut;rw[hwc];clear hwc;by_cases h2:a<0∨8≤a∨b<0∨8≤b∨n<lo∨hi<n
  ·rw[decide_eq_true h2];have hr:=HE.out;rw[if_pos h2] at hr;clear h2;go_wp2_with fail;go_ret
   exact⟨ret_int hr.symm,hb⟩
  rw[decide_eq_false h2];have hE:=HE.out;rw[if_neg h2] at hE;have HE:=zG hE;clear hE;go_upto_region 7 with fail;go_cut [78] from 61 to 78 (fun s wx=>s= .bool (decide ((aB k=false∧a≠0)∨(bB k=false∧b≠0)))∧wx=W)
  case first=>
   rcases HU.out with⟨rfl,h3,h4,-⟩|⟨rfl,h3,h4,-⟩|⟨rfl,h3,h4,-⟩|⟨rfl,h3,h4,-⟩|⟨rfl,h3,h4,-⟩|⟨rfl,h3,h4,-⟩
   all_goals
    clear h2;obtain⟨xa,qa⟩:∃x,(a !=0)=x:=⟨_,rfl⟩;obtain⟨xb,qb⟩:∃x,(b !=0)=x:=⟨_,rfl⟩
    cases xa<;>cases xb
    all_goals
     go_wp2_with fail;go_meet
     exact⟨by simp at qa qb;simp[h3,h4,qa,qb],rfl⟩
  case rest=>
  obtain⟨rfl,hwc⟩:=hcut;rw[hwc];clear hwc;by_cases h3:(aB k=false∧a≠0)∨(bB k=false∧b≠0)
  ·rw[decide_eq_true h3];have hr:=HE.out;rw[if_pos h3] at hr;clear h2 h3;go_wp2_with fail;go_ret
   exact⟨ret_int hr.symm,hb⟩
  rw[decide_eq_false h3];have hE:=HE.out;rw[if_neg h3] at hE;have HE:=zG hE;have n1:lo≤n:=(by omega);have n2:n≤hi:=(by omega);clear hE h2 h3 HU;go_wp2_with fail;all_goals
   have hr:=HE.out;go_ret
   refine⟨ret_int ?_,hb⟩;rw[hr];clear hr HE;repeat' split
   all_goals (first|rfl|(exfalso;omega)|(exfalso;go_light;simp only[beq_iff_eq,beq_eq_false_iff_ne,ne_eq,bne_iff_ne,bne_eq_false_iff_eq] at*;omega))
end
section
open Go.RowKit
set_option maxRecDepth 100000 in
set_option maxHeartbeats 4000000 in
theorem jg (S:Nat→Prop) (A:Option Addr) (c:Nat) (ps:List (List Ins)) (w:World) (hu:dV w) (hr:aj (slE eQ (by decide)) w S (.slice A ps.length c) ps):
  Calls Tryd.prog 35 #[.agg #[.slice A ps.length c]] w fun e w'=>e= .returned (.int .i64 (bT ps))∧Below w.heap.size w w':=by
 obtain⟨-,h1,h2,h3⟩:=hr.fw;have Hr:=zG hr;have Hu:=zG hu;have hB:Below w.heap.size w (w.alloc (.cells #[.slice A ps.length c] 26)):=(Below.refl _ _).alloc (Nat.le_refl _) _;have HL:=zG ((dD.nil (w:=w)).new (cs:=#[.slice A ps.length c]) (t:=26) rfl);clear hr hu h3;by_cases h0:ps.length=0
 ·have e0:((ps.length:Int)==0)=true:=(by simp[h0]);have hp:bT ps=6:=(by unfold bT;rw[if_pos h0]);clear h0;go_enter Tryd.func35,Tryd.ntmps35
  go_wp2_with fail;go_ret
  exact⟨ret_int hp.symm,hB⟩
 have e0:((ps.length:Int)==0)=false:=(by simp only[beq_eq_false_iff_ne,ne_eq];omega);by_cases h6:6<ps.length
 ·have i6:(6:Int)<ps.length:=(by omega);have hp:bT ps=1:=(by unfold bT;rw[if_neg h0,if_pos h6]);go_enter Tryd.func35,Tryd.ntmps35
  go_wp2_with fail;go_ret
  exact⟨ret_int hp.symm,hB⟩
 have i6:¬(6:Int)<ps.length:=(by omega);go_enter Tryd.func35,Tryd.ntmps35
 go_upto_region 1 with fail;generalize w.alloc (.cells #[.slice A ps.length c] 26)=W at*;obtain⟨r1,-,-⟩:=HL.rules;dsimp only at r1;go_wp2_with fail;go_loopw [19] (fun i wr=>∃k:Nat,k≤ps.length∧i= .int .i64 k∧gp ((ps.map (codeF ps.length)).take k)=0∧Below W.heap.size W wr) (fun i _=>ps.length - (intOf i).toNat)
 case atStart=>exact⟨0,by omega,rfl,rfl,Below.refl _ _⟩
 case round=>
  obtain⟨k,hk,rfl,hp,hb⟩:=hrel;generalize wr=wo at*;have hB1:=bM hB hb;by_cases hlt:k<ps.length
  ·obtain⟨x,hx⟩:∃x,ps[k]?=some x:=⟨ps[k],zD hlt⟩;obtain⟨b,o,B,d,rfl,_,hbs,g0,hl⟩:=(Hr.below (by show 0<1;omega) hB1).at_s hx;have hw2:=Hu.below hB1;obtain⟨q1,-,-⟩:=(HL.after hb).rules;dsimp only at q1;obtain⟨-,x1,x2,-⟩:=hl.fw;have Hl:=zG hl;have Hx:=zG hx;have Hp:=zG hp;have Hw:=zG hw2;clear hx hp hl hw2;have i1:(0:Int)≤(k:Int):=(by omega);have i2:(k:Int)<(ps.length:Int):=(by omega);by_cases y0:x.length=0
   ·have f0:((x.length:Int)==0)=true:=(by simp[y0]);have hp:bT ps=1:=progF_at Hx.out h0 (by omega) Hp.out (show codeF ps.length x=1 by unfold codeF;rw[if_pos (.inl y0)]) (by decide);clear y0;go_wp2_with fail;go_ret
    exact⟨ret_int hp.symm,hB1⟩
   have f0:((x.length:Int)==0)=false:=(by simp only[beq_eq_false_iff_ne,ne_eq];omega);by_cases y6:60<x.length
   ·have f6:(60:Int)<x.length:=(by omega);have hp:bT ps=1:=progF_at Hx.out h0 (by omega) Hp.out (show codeF ps.length x=1 by unfold codeF;rw[if_pos (.inr y6)]) (by decide);go_wp2_with fail;go_ret
    exact⟨ret_int hp.symm,hB1⟩
   have f6:¬(60:Int)<x.length:=(by omega);go_wp2_with fail;go_loopw [33] (fun i wz=>∃j:Nat,j≤x.length∧i= .int .i64 j∧gp ((rowF ps.length x).take j)=0∧Below wo.heap.size wo wz) (fun i _=>x.length - (intOf i).toNat)
   case atStart=>exact⟨0,by omega,rfl,rfl,Below.refl _ _⟩
   case round=>
    obtain⟨j,hj,rfl,hq,hbq⟩:=hrel;have hB2:=bM hB1 hbq;by_cases hlt2:j<x.length
    ·obtain⟨i,hi⟩:∃i,x[j]?=some i:=⟨x[j],zD hlt2⟩;obtain⟨b2,o2,rfl,_,hbs2,c0,c1,c2,c3⟩:=(Hl.below (by decide) hbq).at_n hi;obtain⟨r,hr⟩:∃r,insF ps.length x.length j i=r:=⟨_,rfl⟩;have G:=zG (fun P L c d W (h:dV W)=>check_op ps.length x.length j P L c d i W h (by omega) hlt2);rw[hr] at G;obtain⟨q3,-,q2,-,-⟩:=((HL.after (hb.trans (hbq.mono hb.size))).new (cs:=#[.int .i64 i.op,.int .i64 i.a,.int .i64 i.b,.int .i64 i.n]) (t:=58) rfl).rules;dsimp only at q2 q3;have hB3:=hB2.alloc hB2.size (.cells #[.int .i64 i.op,.int .i64 i.a,.int .i64 i.b,.int .i64 i.n] 58);have hbq3:Below wo.heap.size wo (wr.alloc (.cells #[.int .i64 i.op,.int .i64 i.a,.int .i64 i.b,.int .i64 i.n] 58)):=hbq.alloc hbq.size _;have Hq:=zG hq;have Hi:=zG hi;have HR:=zG hr;clear hq hi hr;have i3:(0:Int)≤(j:Int):=(by omega);have i4:(j:Int)<(x.length:Int):=(by omega);go_wp2_with fail;refine(G.out _ _ _ _ _ (Hw.below hbq3)).mono ?_;rintro e w4 ⟨rfl,hb4⟩;by_cases hr0:r=0
     ·subst hr0;go_wp2_with fail;go_roundw
      case rel=>exact⟨j+1,by omega,by go_num,sP (by rw[qJ Hi.out,HR.out]) Hq.out,bM hbq3 hb4⟩
      case measure=>simp[intOf];omega
     ·have hne:(r !=0)=true:=(by simpa using hr0);have hp:bT ps=r:=progF_at Hx.out h0 (by omega) Hp.out (codeF_at Hi.out y0 (by omega) Hq.out HR.out hr0) hr0;go_wp2_with fail;go_ret
      exact⟨ret_int hp.symm,bM hB3 hb4⟩
    ·have i4:¬(j:Int)<(x.length:Int):=(by omega);have hjj:(rowF ps.length x).take j=rowF ps.length x:=List.take_of_length_le (by rw[rowF_len];omega);rw[hjj] at hq;have hcode:=codeF_end y0 (by omega) hq;go_wp2_with fail;go_roundw
     case rel=>exact⟨k+1,by omega,by go_num,sP (by rw[kinds_at Hx.out,hcode]) Hp.out,hb.trans (hbq.mono hb.size)⟩
     case measure=>simp[intOf];omega
  ·have i2:¬(k:Int)<(ps.length:Int):=(by omega);have hkk:(ps.map (codeF ps.length)).take k=ps.map (codeF ps.length):=List.take_of_length_le (by simp;omega);rw[hkk] at hp;have Hp0:=zG (progF_end h0 (by omega) hp);clear hp;go_wp2_with fail;go_ret
   exact⟨ret_int Hp0.symm,hB1⟩
end
end Go.Proofs.YtdmocjnjbihloaaDoor
