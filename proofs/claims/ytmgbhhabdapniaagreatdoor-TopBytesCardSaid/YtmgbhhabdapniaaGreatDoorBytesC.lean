/- The walk of code.Encode. Condition: the table of operators holds what the program's text lays there. The walk of the reader of bytes: a number. No condition beside what is read. The walk of the reader of bytes: an instruction. Condition: the table of operators holds what the program's text lays there. The walk of code.Decode. Condition: the table of operators holds what the program's text lays there. The bytes of a program as bytes; a program written in bytes that are read alone. No condition beside what is read. The walk of treadwheelkeep.codeTells. Condition: the table of operators is as the program's text lays it. -/
import Derived.Test.YtmgbhhabdapniaaGreatDoorDecL
import Derived.Test.YtmgbhhabdapniaaGreatDoorCodeC
import Derived.Test.YtmgbhhabdapniaaGreatDoorCopyP
import Derived.Test.YtmgbhhabdapniaaGreatDoorBytesB
import Derived.Test.YtmgbhhabdapniaaGreatDoorKProg
namespace Go.Proofs.YtmgbhhabdapniaaGreatDoor
section
open Go.RowKit
theorem Held.s {α:Type} {E:El α} {w w':World} {R R':List Res} {css:List (List Value)} {xs:List α} {n:Nat} (h:Held E w (Fr n R) css xs) (k:au w R w' R'):Hid (Held E w' (Fr n R') css xs):=zG (h.move k)
def encL (ps:List (List Ins)):List Int:=if bT ps=0 then progB ps else []
def EncD (w:World) (ps:List (List Ins)) (en:Ending) (w':World):Prop:=
 ∃B d,en= .returned (.tuple #[.slice B (encL ps).length d,.int .i64 (bT ps)])∧w'.ownsRow w.heap.size 5 1 (.slice B (encL ps).length d) (encL ps).length (U8 (encL ps))∧Below w.heap.size w w'
theorem uses_bits {op:Int} (h:0≤op∧op≤19):∃u:Int,usesT[op.toNat]?=some u∧(bits .and .i64 u 3 !=0)=aB op∧(bits .and .i64 u 4 !=0)=nB op:=by
 rcases op_cases (show ¬(op<0∨19<op) by omega) with rfl|rfl|rfl|rfl|rfl|rfl|rfl|rfl|rfl|rfl|rfl|rfl|rfl|rfl|rfl|rfl|rfl|rfl|rfl|rfl<;>exact⟨_,rfl,by decide,by decide⟩
theorem flat_le {α:Type} {f:α→List Int} {m:Nat}:∀{l:List α},(∀x∈l,(f x).length≤m)→(l.map f).flatten.length≤l.length*m
 | [],_=>by simp
 |x::l,h=>by
  have h1:=h x (by simp);have h2:=flat_le (l:=l) (fun y hy=>h y (by simp[hy]));simp only[List.map_cons,List.flatten_cons,List.length_append,List.length_cons];rw[Nat.add_mul];omega
theorem take_flat {α:Type} {f:α→List Int} {l:List α} {k:Nat} {x:α} (h:l[k]?=some x):((l.take (k+1)).map f).flatten=((l.take k).map f).flatten++f x:=by
 rw[List.take_add_one,h];simp
theorem codeB_len {l:List Ins} (h:l.length≤60) (hi:∀i∈l,InsOk i):(codeB l).length≤481:=by
 have:=flat_le (f:=insB) (m:=8) (l:=l) (fun i hi'=>insB_len (hi i hi').n);unfold codeB;simp only[List.length_cons];omega
structure Grow1 (w1 wx:World) (b9:Nat) (cs:Array Value) (v:Value) (ys:List Int):Prop where
 own:wx.ownsRow w1.heap.size 5 1 v ys.length (U8 ys)
 below:Below w1.heap.size w1 wx
 cell:wx.heap[b9]?=some (.cells cs 83 (0,0))
 ne:v.ownBlock≠some b9
theorem Grow1.app {w1 wx w2:World} {b9:Nat} {cs:Array Value} {B B2:Option Addr} {d d2 n:Nat} {ys:List Int} {o:Obj} {zs:List Int} (h:Grow1 w1 wx b9 cs (.slice B ys.length d) ys) (hz:zs.length=n)
  (hown:w2.ownsRow w1.heap.size 5 1 (.slice B2 (ys.length+n) d2) (ys.length+n) (U8 ys++U8 zs)) (hg:(wx.alloc o).grownBy w2 (Value.slice B ys.length d).ownBlock)
  (hat:(Value.slice B2 (ys.length+n) d2).ownBlock=(Value.slice B ys.length d).ownBlock∨(Value.slice B2 (ys.length+n) d2).ownBlock=some (wx.heap.size+1)):Grow1 w1 w2 b9 cs (.slice B2 (ys++zs).length d2) (ys++zs):=by
 have hl:(ys++zs).length=ys.length+n:=(by simp[hz]);have hb9:b9<wx.heap.size:=lK h.cell;have hs:=h.below.size;refine⟨?_,(h.below.alloc hs _).grown hg (by simp;omega) (fun g hg=>(dJ h.own hg).2),(hg.block _ (by simp;omega) h.ne.symm).trans ((Below.heap_alloc _ _ _ hb9).trans h.cell),fun e=>?_⟩
 ·rw[hl];simpa using hown
 ·have hob:(Value.slice B2 (ys++zs).length d2).ownBlock=(Value.slice B2 (ys.length+n) d2).ownBlock:=(by rw[hl]);rw[hob] at e;rcases hat with h'|h'
  ·exact h.ne (h'.symm.trans e)
  ·rw[h'] at e;injection e with e
   omega
set_option maxRecDepth 100000 in
set_option maxHeartbeats 8000000 in
theorem encode_any (S:Nat→Prop) (A:Option Addr) (c:Nat) (ps:List (List Ins)) (w:World) (hu:dV w) (hr:aj (slE eQ (by decide)) w S (.slice A ps.length c) ps):
  Calls Tryz.prog 24 #[.agg #[.slice A ps.length c]] w (EncD w ps):=by
 obtain⟨-,h1,h2,-⟩:=hr.fw;obtain⟨i0,hi0,hz0,hz1,hz2⟩:=info_parts infoU8;have Hr:=zG (hr.keep (S':=fun b=>b<w.heap.size) (by show 0<1;omega) (fun b hb _=>⟨hb,rfl⟩));have Hu:=zG hu;have hB:Below w.heap.size w (w.alloc (.cells #[.slice A ps.length c] 24)):=(Below.refl _ _).alloc (Nat.le_refl _) _;have HL:=zG ((dD.nil (w:=w)).new (cs:=#[.slice A ps.length c]) (t:=24) rfl);have G1:=zG (jg S A c ps _ (hu.below hB) (hr.below (by show 0<1;omega) hB));clear hr hu;unfold EncD;by_cases hp:bT ps=0
 ·obtain⟨n0,n6,hok⟩:=qV hp;have he:encL ps=progB ps:=(by unfold encL;rw[if_pos hp]);rw[he];rw[hp] at G1 ⊢;have Hok:=zG hok;clear he hp hok;go_enter Tryz.func24,Tryz.ntmps24
  go_wp2_with fail;refine G1.mono ?_;rintro e w1 ⟨rfl,hb1⟩;have hB1:=bM hB hb1;have HL1:=zG (HL.after hb1);obtain⟨r1,-,-⟩:=HL1.rules;dsimp only at r1;have i6:(ps.length:Int)<256:=(by omega);go_upto_region 5 with fail;have hown0:(w1.alloc (.cells #[.int .u8 116,.int .u8 119,.int .u8 (ps.length:Int)] 5)).ownsRow w1.heap.size 5 1 (.slice (some ⟨w1.heap.size,0,none⟩) 3 3) 3 (U8 [116,119,(ps.length:Int)]):=own_u8 (cs:=U8 [116,119,(ps.length:Int)]) (heap_alloc_new w1 _) (by simp[maxLen]) (Nat.le_refl _);have hb2:Below w1.heap.size w1 (w1.alloc (.cells #[.int .u8 116,.int .u8 119,.int .u8 (ps.length:Int)] 5)):=(Below.refl _ _).alloc (Nat.le_refl _) _;generalize (w1.alloc (.cells #[.int .u8 116,.int .u8 119,.int .u8 (ps.length:Int)] 5))=W1 at*;have Hown0:=zG hown0;clear hown0;clear r1;obtain⟨r1,-,-⟩:=(HL1.after hb2).rules;dsimp only at r1;go_wp2_with fail;go_loopw [5,24] (fun v i wr=>∃(k:Nat) (ys:List Int) (B:Option Addr) (d:Nat),k≤ps.length∧i= .int .i64 k∧v= .slice B ys.length d∧wr.ownsRow w1.heap.size 5 1 (.slice B ys.length d) ys.length (U8 ys)∧
    Below w1.heap.size w1 wr∧ys= [116,119,(ps.length:Int)]++((ps.take k).map codeB).flatten) (fun _ i _=>ps.length - (intOf i).toNat)
  case atStart=>exact⟨0,[116,119,(ps.length:Int)],some ⟨w1.heap.size,0,none⟩,3,by omega,rfl,rfl,Hown0.out,hb2,by simp⟩
  case round=>
   obtain⟨k,ys,B,d,hk,rfl,rfl,hown,hb,hys⟩:=hrel;generalize wr=wo at*;have hyl:ys.length≤2889:=by
    have:=flat_le (f:=codeB) (m:=481) (l:=ps.take k) (fun l hl=>codeB_len (Hok.out l (List.mem_of_mem_take hl)).2.1 (Hok.out l (List.mem_of_mem_take hl)).2.2);rw[hys];simp only[List.length_append,List.length_cons,List.length_nil];have h6:(ps.take k).length≤6:=(by simp;omega);have:=Nat.mul_le_mul_right 481 h6;omega
   have hB2:=bM hB1 hb;have hs1:=hb.size;have Hown:=zG hown;have Hys:=zG hys;clear hown hys;by_cases hlt:k<ps.length
   ·obtain⟨x,hx⟩:∃x,ps[k]?=some x:=⟨ps[k],zD hlt⟩;obtain⟨x0,x6,hxi⟩:=Hok.out x (zF hx);obtain⟨pb,po,B1,d1,rfl,_,hbs,g0,hl⟩:=(Hr.below (by show 0<1;omega) hB2).at_s hx;obtain⟨-,x1,x2,-⟩:=hl.fw;have Hl:=zG hl;have Hx:=zG hx;have Hxi:=zG hxi;clear hx hl hxi;have i1:(0:Int)≤(k:Int):=(by omega);have i2:(k:Int)<(ps.length:Int):=(by omega);have i3:(x.length:Int)<256:=(by omega);go_wp2_with (at_builtin;go_loud (refine wpList_append_own_at _ rfl (.tmp 28) (.tmp 32) _ rfl w1.heap.size 5 i0 _ 1 1 Tryz.underlying59 hi0 hz0 hz1 hz2 rfl (by omega) _ ys.length (U8 ys) rfl (Hown.alloc _) ⟨wo.heap.size,0,none⟩ 1 1 (U8 [(x.length:Int)]) rfl rfl (World.news_of_block (cs:=#[.int .u8 ((x.length:Int))]) (t:=5) (fr:=(0,0)) (heap_alloc_new wo _)) (U8_one _) (by unfold maxLen;omega) (by omega) (by simp;omega) ?next))
    case next=>
     intro v5 w5 hown5 hg5 _ hat5;obtain⟨A5,c5,rfl⟩:=bZ hown5;have hb5:Below w1.heap.size w1 w5:=(hb.alloc hs1 _).grown hg5 (by simp;omega) (fun g hg=>(dJ Hown.out hg).2);obtain⟨zs5,hz5⟩:∃zs5,zs5=ys++[(x.length:Int)]:=⟨_,rfl⟩;have hzl5:ys.length+1=zs5.length:=(by rw[hz5];simp);rw[hzl5] at hown5 ⊢;have hown5':w5.ownsRow w1.heap.size 5 1 (.slice A5 zs5.length c5) zs5.length (U8 zs5):=by
      rw[show U8 zs5=U8 ys++[.int .u8 (x.length:Int)] by rw[hz5];simp];exact hown5
     have Hown5:=zG hown5';have Hz5:=zG hz5;clear hown5 hown5' hg5 hat5 hz5;go_wp2_with fail;go_loopw [5,36] (fun v i wz=>∃(j:Nat) (zs:List Int) (B:Option Addr) (d:Nat),j≤x.length∧i= .int .i64 j∧v= .slice B zs.length d∧wz.ownsRow w1.heap.size 5 1 (.slice B zs.length d) zs.length (U8 zs)∧
       Below w1.heap.size w1 wz∧zs=zs5++((x.take j).map insB).flatten) (fun _ i _=>x.length - (intOf i).toNat)
     case atStart=>exact⟨0,zs5,A5,c5,by omega,rfl,rfl,Hown5.out,hb5,by simp⟩
     case round=>
      obtain⟨j,zs,B6,d6,hj,rfl,rfl,hown6,hb6,hzs⟩:=hrel;have hz5l:zs5.length≤2890:=(by omega);have hzl:zs.length≤3370:=by
       have:=flat_le (f:=insB) (m:=8) (l:=x.take j) (fun i hi=>insB_len (Hxi.out i (List.mem_of_mem_take hi)).n);rw[hzs];simp only[List.length_append];have h6:(x.take j).length≤60:=(by simp;omega);have:=Nat.mul_le_mul_right 8 h6;omega
      have hB3:=bM hB1 hb6;have hs6:=hb6.size;have Hown6:=zG hown6;have Hzs:=zG hzs;clear hown6 hzs;by_cases hlt2:j<x.length
      ·obtain⟨i,hi⟩:∃i,x[j]?=some i:=⟨x[j],zD hlt2⟩;have hio:=Hxi.out i (zF hi);have hss:=hB1.size;obtain⟨b2,o2,rfl,_,hbs2,c0,c1,c2,c3⟩:=(Hl.keep (w':=wr) (S':=fun _=>True) (by decide) (fun q _ hS=>⟨trivial,(hb6.block q (by have h:q<w.heap.size:=hS;omega)).trans (hb.block q (by have h:q<w.heap.size:=hS;omega)).symm⟩)).at_n hi;obtain⟨op,ia,ib,n⟩:=i;obtain⟨⟨k0,k1⟩,⟨k2,k3⟩,⟨k4,k5⟩,hn⟩:=hio;dsimp only at k0 k1 k2 k3 k4 k5 hn c0 c1 c2 c3;obtain⟨u,hu1,f1,f2⟩:=uses_bits (op:=op) ⟨k0,k1⟩;obtain⟨o,rfl⟩:=Int.eq_ofNat_of_zero_le k0;obtain⟨a,rfl⟩:=Int.eq_ofNat_of_zero_le k2;obtain⟨b,rfl⟩:=Int.eq_ofNat_of_zero_le k4;have hins:insB ⟨(o:Int),(a:Int),(b:Int),n⟩=(o:Int)::((if aB o then [(a:Int)+8*(b:Int)] else [])++(if nB o then sev (zz n) else [])):=rfl;have Hins:=zG hins;have Hi:=zG hi;generalize aB (o:Int)=xa at*;generalize nB (o:Int)=xb at*;have G0:Grow1 w1 (wr.alloc (.cells #[.int .i64 (o:Int),.int .i64 (a:Int),.int .i64 (b:Int),.int .i64 n] 83)) wr.heap.size #[.int .i64 (o:Int),.int .i64 (a:Int),.int .i64 (b:Int),.int .i64 n] (.slice B6 zs.length d6) zs:=
        ⟨Hown6.alloc _,hb6.alloc hs6 _,heap_alloc_new wr _,fun e=>by have:=(dJ Hown6.out e).1;omega⟩
       have hs7:wr.heap.size+1=(wr.alloc (.cells #[.int .i64 (o:Int),.int .i64 (a:Int),.int .i64 (b:Int),.int .i64 n] 83)).heap.size:=(by simp);have q1:(0:Int)≤(j:Int):=(by omega);have q2:(j:Int)<(x.length:Int):=(by omega);have q3:(o:Int)<256:=(by omega);have e0:(o:Int) % 256=(o:Int):=(by omega);clear hins hi;go_upto_region 12 with fail;generalize wr.alloc (.cells #[.int .i64 (o:Int),.int .i64 (a:Int),.int .i64 (b:Int),.int .i64 n] 83)=W2 at*;have hb9:wr.heap.size<W2.heap.size:=(by omega);generalize wr.heap.size=b9 at*;have G0':=zG G0;clear c0 c1 c2 c3 G0;have d0:W2.cell? ⟨b9,0,none⟩=some (.int .i64 (o:Int)):=cell_of_row W2 _ 0 _ _ _ G0'.cell;go_wp2_with (at_builtin;go_loud (refine wpList_append_own_at _ rfl (.tmp 40) (.tmp 44) _ rfl w1.heap.size 5 i0 _ 1 1 Tryz.underlying59 hi0 hz0 hz1 hz2 rfl (by omega) _ zs.length (U8 zs) rfl (G0'.own.alloc _) ⟨W2.heap.size,0,none⟩ 1 1 (U8 [(o:Int)]) rfl rfl (World.news_of_block (cs:=#[.int .u8 ((o:Int))]) (t:=5) (fr:=(0,0)) (heap_alloc_new W2 _)) (U8_one _) (by unfold maxLen;omega) (by omega) (by simp;omega) ?next))
       case next=>
        intro v7 w7 hown7 hg7 _ hat7;obtain⟨A7,c7,rfl⟩:=bZ hown7;have hsb:=G0'.below.size;have G1':=zG (Grow1.app (zs:=[(o:Int)]) G0'.out rfl hown7 hg7 (by simpa using hat7));obtain⟨z1,hz1'⟩:∃z1,z1=zs++[(o:Int)]:=⟨_,rfl⟩;have hzl1:zs.length+1=z1.length:=(by rw[hz1'];simp);rw[←hz1'] at G1';rw[hzl1];have d0:w7.cell? ⟨b9,0,none⟩=some (.int .i64 (o:Int)):=cell_of_row w7 _ 0 _ _ _ G1'.cell;have d1:w7.cell? ⟨b9,1,none⟩=some (.int .i64 (a:Int)):=cell_of_row w7 _ 1 _ _ _ G1'.cell;have d2:w7.cell? ⟨b9,2,none⟩=some (.int .i64 (b:Int)):=cell_of_row w7 _ 2 _ _ _ G1'.cell;have cu:w7.cell? ⟨0,o,none⟩=some (.int .i64 u):=(Hu.below (bM hB1 G1'.below)) o u hu1;have k1':(o:Int)<20:=(by omega);have k0':(0:Int)≤(o:Int):=(by omega);have hb97:b9<w7.heap.size:=lK G1'.cell;have hs71:=G1'.below.size;have Hz1:=zG hz1';clear hown7 hg7 hat7 hz1';go_upto_if 52 with fail
        go_cut [5] from 53 to 62 (fun s wx=>∃(z2:List Int) (B2:Option Addr) (d2:Nat),s= .slice B2 z2.length d2∧z2=z1++(if xa then [(a:Int)+8*(b:Int)] else [])∧Grow1 w1 wx b9 #[.int .i64 (o:Int),.int .i64 (a:Int),.int .i64 (b:Int),.int .i64 n] (.slice B2 z2.length d2) z2)
        case first=>
         cases xa
         ·go_wp2_with fail;go_meet
          exact⟨z1,A7,c7,rfl,by simp,by rw[Hz1.out];have:=G1'.out;rw[Hz1.out] at this;exact this⟩
         ·have g1:=two_regs a b (by omega) (by omega);obtain⟨ab,hab⟩:∃ab,ab=a+8*b:=⟨_,rfl⟩;rw[←hab] at g1;have hab':(a:Int)+8*(b:Int)=(ab:Int):=(by omega);have g2:(ab:Int) % 256=(ab:Int):=(by omega);have g3:(ab:Int)<256:=(by omega);have Hab:=zG hab';clear hab hab';go_wp2_with (at_builtin;go_loud (refine wpList_append_own_at _ rfl (.tmp 53) (.tmp 61) _ rfl w1.heap.size 5 i0 _ 1 1 Tryz.underlying59 hi0 hz0 hz1 hz2 rfl (by omega) _ z1.length (U8 z1) rfl (G1'.own.alloc _) ⟨w7.heap.size,0,none⟩ 1 1 (U8 [(ab:Int)]) rfl rfl (World.news_of_block (cs:=#[.int .u8 ((ab:Int))]) (t:=5) (fr:=(0,0)) (heap_alloc_new w7 _)) (U8_one _) (by unfold maxLen;omega) (by omega) (by simp;omega) ?next))
          case next=>
           intro v8 w8 hown8 hg8 _ hat8;obtain⟨A8,c8,rfl⟩:=bZ hown8;have G2':=zG (Grow1.app (zs:=[(ab:Int)]) (show Grow1 w1 w7 b9 #[.int .i64 (o:Int),.int .i64 (a:Int),.int .i64 (b:Int),.int .i64 n] (.slice A7 z1.length c7) z1 from G1'.out) rfl hown8 hg8 (by simpa using hat8));have hl8:z1.length+1=(z1++[(ab:Int)]).length:=(by simp);rw[hl8];clear hown8 hg8 hat8;go_wp2_with fail;go_meet
           exact⟨z1++[(ab:Int)],A8,c8,by rw[←hl8],by rw[Hab.out];simp,G2'.out⟩
        case rest=>
        obtain⟨z2,B2,dd2,rfl,hz2',hG2⟩:=hcut;have hz2l:z2.length≤3372:=by rw[hz2'];simp only[List.length_append];split<;>simp<;>omega
        have G2':=zG hG2;have Hz2:=zG hz2';have d3:wc.cell? ⟨b9,3,none⟩=some (.int .i64 n):=cell_of_row wc _ 3 _ _ _ G2'.cell;have hb98:b9<wc.heap.size:=lK G2'.cell;have hs8:=G2'.below.size;have Hn:=zG hn;clear hG2 hz2' d0 d1 d2 cu hu1
        cases xb
        ·go_wp2_with fail;go_roundw
         case rel=>
          exact⟨j+1,z2,B2,dd2,by omega,by go_num,rfl,G2'.own,G2'.below,by rw[take_flat Hi.out,Hins.out,Hz2.out,Hz1.out,Hzs.out];simp⟩
         case measure=>simp[intOf];omega
        ·have G3:=zG (number_any w1.heap.size B2 dd2 z2 n Hn.out (by omega) wc G2'.own (by omega));go_wp2_with fail;refine G3.mono ?_;rintro e w9 ⟨B9,d9,rfl,hown9,hg9⟩;obtain⟨z3,hz3⟩:∃z3,z3=z2++sev (zz n):=⟨_,rfl⟩;rw[←hz3] at hown9 hg9 ⊢;have hb9':=G2'.below.trans (hg9.below (base:=w1.heap.size) (by omega) (fun g hg=>(dJ G2'.own hg).2));have Hown9:=zG hown9;have Hz3:=zG hz3;clear hown9 hg9 hz3;go_wp2_with fail;go_roundw
         case rel=>
          exact⟨j+1,z3,B9,d9,by omega,by go_num,rfl,Hown9.out,hb9',by rw[take_flat Hi.out,Hins.out,Hz3.out,Hz2.out,Hz1.out,Hzs.out];simp⟩
         case measure=>simp[intOf];omega
      ·have i4:¬(j:Int)<(x.length:Int):=(by omega);have hjj:x.take j=x:=List.take_of_length_le (by omega);have hz':=Hzs.out;rw[hjj] at hz';have hcode:zs=ys++codeB x:=(by rw[hz',Hz5.out];unfold codeB;simp);have Hcode:=zG hcode;clear hz' hjj hcode;go_wp2_with fail;go_roundw
       case rel=>exact⟨k+1,zs,B6,d6,by omega,by go_num,rfl,Hown6.out,hb6,by rw[Hcode.out,take_flat Hx.out,Hys.out];simp⟩
       case measure=>simp[intOf];omega
   ·have i2:¬(k:Int)<(ps.length:Int):=(by omega);have hkk:ps.take k=ps:=List.take_of_length_le (by omega);have hys':=Hys.out;rw[hkk] at hys';have hpb:progB ps=ys:=(by rw[hys'];rfl);have Hpb:=zG hpb;clear hpb hys' hkk;go_wp2_with fail;refine bodyPost_ret (v:= .tuple #[.slice B ys.length d,.int .i64 0]) (by simp[results,Tryz.results24,go_sem]) rfl ⟨B,d,by rw[Hpb.out],by rw[Hpb.out];exact fH Hown.out (by have:=hB1.size;omega) (fun _ _=>rfl),hB2⟩
 ·have he:encL ps= []:=(by unfold encL;rw[if_neg hp]);rw[he];have hne:(bT ps !=0)=true:=(by simpa using hp);generalize bT ps=r at*;go_enter Tryz.func24,Tryz.ntmps24
  go_wp2_with fail;refine G1.mono ?_;rintro e w1 ⟨rfl,hb1⟩;have hB1:=bM hB hb1;go_wp2_with fail;refine bodyPost_ret (v:= .tuple #[.slice none 0 0,.int .i64 r]) (by simp[results,Tryz.results24,go_sem]) rfl ⟨none,0,rfl,⟨rfl,.inl ⟨rfl,rfl⟩⟩,hB1⟩
end
section
open Go.RowKit
def ReadTo {α:Type} (bad:Int→Prop) (good:List UInt8→Prop) (r:Except Int (α×List Int)) (P:α→Prop):Prop:=
 match r with
 | .error e=>e≠0∧bad e
 | .ok (a,t)=>P a∧∃l,t=I8 l∧good l
theorem bits_and_one (n:Nat) (h:n<4611686018427387904):bits .and .i64 (n:Int) 1=((n % 2:Nat):Int):=by
 have:=bits_and_i64_nat n 1 h (by omega);rw[show n&&& 1=n % 2 from Nat.and_two_pow_sub_one_eq_mod n 1] at this;exact this
theorem or_shifted (m x j:Nat) (hm:m<2 ^ j) (hx:x<128) (hj:j≤42):bits .or .i64 (m:Int) (((x*2 ^ j:Nat):Int))=((m+x*2 ^ j:Nat):Int):=by
 have h1:2 ^ j≤2 ^ 42:=Nat.pow_le_pow_right (by omega) hj;have h2:x*2 ^ j≤127*2 ^ 42:=Nat.mul_le_mul (by omega) h1;have:=bits_or_i64_nat m (x*2 ^ j) (by omega) (by omega);rw[this,Nat.or_comm,Nat.mul_comm x,←Nat.two_pow_add_eq_or_of_lt hm x,Nat.add_comm]
theorem num_bad {x:UInt8} {l:List UInt8} {k:Nat} {m:Int} (h:k=6∨(0<k∧x.toNat=0)):numF (I8 (x::l)) k m= .error 4:=by
 rw[I8,List.map_cons,numF,if_pos (by omega)]
theorem num_last {x:UInt8} {l:List UInt8} {k:Nat} {m:Int} (h:¬(k=6∨(0<k∧x.toNat=0))) (hx:x.toNat<128):numF (I8 (x::l)) k m= .ok (m+((x.toNat % 128:Nat):Int)*128 ^ k,I8 l):=by
 rw[I8,List.map_cons,numF,if_neg (by omega),if_pos (by omega)];rfl
theorem num_on {x:UInt8} {l:List UInt8} {k:Nat} {m:Int} (h:¬(k=6∨(0<k∧x.toNat=0))) (hx:¬x.toNat<128):numF (I8 (x::l)) k m=numF (I8 l) (k+1) (m+((x.toNat % 128:Nat):Int)*128 ^ k):=by
 rw[I8,List.map_cons,numF,if_neg (by omega),if_neg (by omega)];rfl
theorem pow_seven (k:Nat):(128:Nat) ^ k=2 ^ (7*k):=by rw[Nat.pow_mul]
theorem grown128 {m y k:Nat} (hm:m<128 ^ k) (hy:y<128):m+y*128 ^ k<128 ^ (k+1):=by
 have:(y+1)*128 ^ k≤128*128 ^ k:=Nat.mul_le_mul_right _ (by omega);rw[Nat.add_mul] at this;rw[Nat.pow_succ];omega
theorem pow_le7 {k:Nat} (h:k≤7):(128:Nat) ^ k≤562949953421312:=Nat.le_trans (Nat.pow_le_pow_right (by omega) h) (by decide)
theorem unzz_odd {m:Nat} (h:m % 2=1):unzz (m:Int)= -(((m+1) / 2:Nat):Int):=by
 unfold unzz;rw[if_pos (by omega)];omega
theorem unzz_even {m:Nat} (h:¬m % 2=1):unzz (m:Int)=((m / 2:Nat):Int):=by
 unfold unzz;rw[if_neg (by omega)];omega
set_option maxRecDepth 100000 in
set_option maxHeartbeats 4000000 in
theorem numberR_any (g:Nat) (S:Nat→Prop) (hg:¬S g) (l:List UInt8) (w:World) (h:RdrAt w g S l):
  Calls Tryz.prog 87 #[.pointer (some ⟨g,0,none⟩)] w fun en w'=>∃x,en= .returned (.int .i64 x)∧Only g w w'∧
   ReadTo (fun e=>∃v',rdr w' g v' e) (RdrAt w' g S) (numF (I8 l) 0 0) (fun m=>x=unzz m):=by
 have Hh:=zG h;clear h;generalize hN:numF (I8 l) 0 0=N;have HN:=zG hN;clear hN;go_enter Tryz.func87,Tryz.ntmps87
 go_wp2_with fail;go_loopw [3,4] (fun a b wr=>∃(k m:Nat),a= .int .i64 m∧b= .int .i64 k∧Only g w wr∧m<128 ^ k∧k≤7∧
   ((∃l',k≤6∧RdrAt wr g S l'∧numF (I8 l') k m=N)∨(∃e v',e≠0∧rdr wr g v' e∧N= .error e))) (fun _ b _=>8 - (intOf b).toNat)
 case atStart=>exact⟨0,0,rfl,rfl,Only.refl _ _,by decide,by omega,.inl ⟨l,by omega,Hh.out,HN.out⟩⟩
 case round=>
  obtain⟨k,m,rfl,rfl,ho,hm,hk7,hst⟩:=hrel;generalize wr=wq at*;have Ho:=zG ho;have Hm:=zG hm;have hm7:=pow_le7 hk7;have hmm:m<562949953421312:=(by omega);clear ho hm hm7;rcases hst with⟨l',hk,hd,hn⟩|⟨e,v',he,hd,hn⟩
  ·have c1:wq.cell? ⟨g,1,none⟩=some (.int .i64 0):=(by obtain⟨v,h,-⟩:=hd;exact cell_of_row wq _ 1 _ _ _ h);have Hn:=zG hn;have Hd:=zG hd;clear hn hd;rcases l' with _|⟨x,l'⟩
   rotate_left
   ·have hx256:=x.toNat_lt;have G:=zG (byte_ok g S hg x l' wq Hd.out);go_wp2_with fail;refine G.mono ?_;rintro en w1 ⟨rfl,ho1,hd1⟩;have Hd0:=zG hd1;obtain⟨v1,hd1,-⟩:=hd1;have c1':w1.cell? ⟨g,1,none⟩=some (.int .i64 0):=cell_of_row w1 _ 1 _ _ _ hd1;have f1:∀i,w1.frozen? ⟨g,i,none⟩=false:=fun i=>by unfold rdr at hd1;simp[World.frozen?,hd1]
    have Ho1:=zG (Ho.trans ho1);have Hd1:=zG hd1;clear G ho1 hd1 c1;go_upto_region 6 with fail;go_cut [31] from 15 to 31 (fun s wx=>s= .bool (decide (k=6∨(0<k∧x.toNat=0)))∧wx=w1)
    case first=>
     by_cases h6:k=6
     ·subst h6;go_wp2_with fail;go_meet
      exact⟨by simp,rfl⟩
     ·have e6:((k:Int)==6)=false:=(by simp;omega);have d6:decide (k=6∨(0<k∧x.toNat=0))=(decide (0<k)&&decide (x.toNat=0)):=(by simp[h6]);by_cases h0:0<k
      ·have i0':(0:Int)<(k:Int):=(by omega);go_wp2_with fail;go_meet
       exact⟨by rw[d6];simp[h0];first|done|(congr 1;simp)|(rw[Bool.eq_iff_iff];simp),rfl⟩
      ·obtain rfl:k=0:=(by omega);go_wp2_with fail;go_meet
       exact⟨by simp,rfl⟩
    case rest=>
    obtain⟨rfl,hwc⟩:=hcut;rw[hwc];clear hwc;have hy:x.toNat % 128<128:=Nat.mod_lt _ (by omega);have hmn:=grown128 Hm.out hy;have Hmn:=zG hmn;clear hmn;have e1:=low_seven x.toNat (by omega);by_cases hC:k=6∨(0<k∧x.toNat=0)
    ·have dC:decide (k=6∨(0<k∧x.toNat=0))=true:=(by simpa using hC);have HE:=zG ((num_bad hC).symm.trans Hn.out);simp only[dC];clear dC hC;go_upto_region 8 with fail;have Ho2:=zG (Ho1.set 1 (.int .i64 4));have Hd2:=zG (rdr_set Hd1.out 4);clear c1' f1;generalize w1.setCell ⟨g,1,none⟩ (.int .i64 4)=w2 at*;have c2:w2.cell? ⟨g,1,none⟩=some (.int .i64 4):=cell_of_row w2 _ 1 _ _ _ Hd2.out;go_cut [3] from 35 to 42 (fun s wx=>s= .int .i64 ((m+x.toNat % 128*128 ^ k:Nat):Int)∧wx=w2)
     case first=>
      have hmk:=Hm.out;rw[pow_seven] at hmk;generalize x.toNat % 128=y at*;rcases (show k=0∨k=1∨k=2∨k=3∨k=4∨k=5∨k=6 by omega) with rfl|rfl|rfl|rfl|rfl|rfl|rfl
      ·have e2:bits .or .i64 (m:Int) ((y:Int))=((m+y*1:Nat):Int):=(by have:=or_shifted m y 0 hmk (by omega) (by omega);simpa using this);obtain⟨M,hM⟩:∃M,m+y*1=M:=⟨_,rfl⟩;rw[hM] at e2;go_wp2_with fail;go_meet
       exact⟨by rw[←hM],rfl⟩
      ·have e2:bits .or .i64 (m:Int) ((y:Int)*128)=((m+y*128:Nat):Int):=or_shifted m y 7 hmk (by omega) (by omega);obtain⟨M,hM⟩:∃M,m+y*128=M:=⟨_,rfl⟩;rw[hM] at e2;go_wp2_with fail;go_meet
       exact⟨by rw[←hM],rfl⟩
      ·have e2:bits .or .i64 (m:Int) ((y:Int)*16384)=((m+y*16384:Nat):Int):=or_shifted m y 14 hmk (by omega) (by omega);obtain⟨M,hM⟩:∃M,m+y*16384=M:=⟨_,rfl⟩;rw[hM] at e2;go_wp2_with fail;go_meet
       exact⟨by rw[←hM],rfl⟩
      ·have e2:bits .or .i64 (m:Int) ((y:Int)*2097152)=((m+y*2097152:Nat):Int):=or_shifted m y 21 hmk (by omega) (by omega);obtain⟨M,hM⟩:∃M,m+y*2097152=M:=⟨_,rfl⟩;rw[hM] at e2;go_wp2_with fail;go_meet
       exact⟨by rw[←hM],rfl⟩
      ·have e2:bits .or .i64 (m:Int) ((y:Int)*268435456)=((m+y*268435456:Nat):Int):=or_shifted m y 28 hmk (by omega) (by omega);obtain⟨M,hM⟩:∃M,m+y*268435456=M:=⟨_,rfl⟩;rw[hM] at e2;go_wp2_with fail;go_meet
       exact⟨by rw[←hM],rfl⟩
      ·have e2:bits .or .i64 (m:Int) ((y:Int)*34359738368)=((m+y*34359738368:Nat):Int):=or_shifted m y 35 hmk (by omega) (by omega);obtain⟨M,hM⟩:∃M,m+y*34359738368=M:=⟨_,rfl⟩;rw[hM] at e2;go_wp2_with fail;go_meet
       exact⟨by rw[←hM],rfl⟩
      ·have e2:bits .or .i64 (m:Int) ((y:Int)*4398046511104)=((m+y*4398046511104:Nat):Int):=or_shifted m y 42 hmk (by omega) (by omega);obtain⟨M,hM⟩:∃M,m+y*4398046511104=M:=⟨_,rfl⟩;rw[hM] at e2;go_wp2_with fail;go_meet
       exact⟨by rw[←hM],rfl⟩
     case rest=>
     obtain⟨rfl,hwc⟩:=hcut;rw[hwc];clear hwc;by_cases hl:x.toNat<128
     ·have il:(x.toNat:Int)<128:=(by omega);obtain⟨M,hM⟩:∃M,m+x.toNat % 128*128 ^ k=M:=⟨_,rfl⟩;rw[hM];have hMs:M<4611686018427387904:=(by have:=Hmn.out;have:=pow_le7 (k:=k+1) (by omega);omega);have eM:=bits_and_one M hMs;by_cases hM2:M % 2=1
      ·rw[hM2] at eM;go_wp2_with fail;go_ret
       exact⟨_,rfl,⟨Ho2.out,by rw[←HE.out];exact⟨by decide,_,Hd2.out⟩⟩⟩
      ·have hM0:M % 2=0:=(by omega);rw[hM0] at eM;go_wp2_with fail;go_ret
       exact⟨_,rfl,⟨Ho2.out,by rw[←HE.out];exact⟨by decide,_,Hd2.out⟩⟩⟩
     ·have il:¬(x.toNat:Int)<128:=(by omega);go_wp2_with fail;go_roundw
      case rel=>exact⟨k+1,m+x.toNat % 128*128 ^ k,by go_num,by go_num,Ho2.out,Hmn.out,by omega,.inr ⟨4,_,by decide,Hd2.out,HE.symm⟩⟩
      case measure=>simp[intOf];omega
    ·have dC:decide (k=6∨(0<k∧x.toNat=0))=false:=(by simpa using hC);simp only[dC];go_upto_region 8 with fail;go_cut [3] from 35 to 42 (fun s wx=>s= .int .i64 ((m+x.toNat % 128*128 ^ k:Nat):Int)∧wx=w1)
     case first=>
      have hmk:=Hm.out;rw[pow_seven] at hmk;generalize x.toNat % 128=y at*;rcases (show k=0∨k=1∨k=2∨k=3∨k=4∨k=5∨k=6 by omega) with rfl|rfl|rfl|rfl|rfl|rfl|rfl
      ·have e2:bits .or .i64 (m:Int) ((y:Int))=((m+y*1:Nat):Int):=(by have:=or_shifted m y 0 hmk (by omega) (by omega);simpa using this);obtain⟨M,hM⟩:∃M,m+y*1=M:=⟨_,rfl⟩;rw[hM] at e2;go_wp2_with fail;go_meet
       exact⟨by rw[←hM],rfl⟩
      ·have e2:bits .or .i64 (m:Int) ((y:Int)*128)=((m+y*128:Nat):Int):=or_shifted m y 7 hmk (by omega) (by omega);obtain⟨M,hM⟩:∃M,m+y*128=M:=⟨_,rfl⟩;rw[hM] at e2;go_wp2_with fail;go_meet
       exact⟨by rw[←hM],rfl⟩
      ·have e2:bits .or .i64 (m:Int) ((y:Int)*16384)=((m+y*16384:Nat):Int):=or_shifted m y 14 hmk (by omega) (by omega);obtain⟨M,hM⟩:∃M,m+y*16384=M:=⟨_,rfl⟩;rw[hM] at e2;go_wp2_with fail;go_meet
       exact⟨by rw[←hM],rfl⟩
      ·have e2:bits .or .i64 (m:Int) ((y:Int)*2097152)=((m+y*2097152:Nat):Int):=or_shifted m y 21 hmk (by omega) (by omega);obtain⟨M,hM⟩:∃M,m+y*2097152=M:=⟨_,rfl⟩;rw[hM] at e2;go_wp2_with fail;go_meet
       exact⟨by rw[←hM],rfl⟩
      ·have e2:bits .or .i64 (m:Int) ((y:Int)*268435456)=((m+y*268435456:Nat):Int):=or_shifted m y 28 hmk (by omega) (by omega);obtain⟨M,hM⟩:∃M,m+y*268435456=M:=⟨_,rfl⟩;rw[hM] at e2;go_wp2_with fail;go_meet
       exact⟨by rw[←hM],rfl⟩
      ·have e2:bits .or .i64 (m:Int) ((y:Int)*34359738368)=((m+y*34359738368:Nat):Int):=or_shifted m y 35 hmk (by omega) (by omega);obtain⟨M,hM⟩:∃M,m+y*34359738368=M:=⟨_,rfl⟩;rw[hM] at e2;go_wp2_with fail;go_meet
       exact⟨by rw[←hM],rfl⟩
      ·have e2:bits .or .i64 (m:Int) ((y:Int)*4398046511104)=((m+y*4398046511104:Nat):Int):=or_shifted m y 42 hmk (by omega) (by omega);obtain⟨M,hM⟩:∃M,m+y*4398046511104=M:=⟨_,rfl⟩;rw[hM] at e2;go_wp2_with fail;go_meet
       exact⟨by rw[←hM],rfl⟩
     case rest=>
     obtain⟨rfl,hwc⟩:=hcut;rw[hwc];clear hwc;by_cases hl:x.toNat<128
     ·have il:(x.toNat:Int)<128:=(by omega);have HE:=zG ((num_last hC hl).symm.trans Hn.out);obtain⟨M,hM⟩:∃M,m+x.toNat % 128*128 ^ k=M:=⟨_,rfl⟩;rw[hM];have hMs:M<4611686018427387904:=(by have:=Hmn.out;have:=pow_le7 (k:=k+1) (by omega);omega);have eM:=bits_and_one M hMs;have hMi:(m:Int)+((x.toNat % 128:Nat):Int)*128 ^ k=(M:Int):=(by rw[←hM];simp);have HMi:=zG hMi;clear hMi;by_cases hM2:M % 2=1
      ·have HU:=zG (unzz_odd hM2);rw[hM2] at eM;go_wp2_with fail;go_ret
       refine⟨_,rfl,Ho1.out,?_⟩;rw[←HE.out];exact⟨by show _=unzz _;rw[HMi.out,HU.out];first|omega|(rw[Int.tdiv_eq_ediv_of_nonneg (by omega)];unfold wrap64;omega),l',rfl,Hd0.out⟩
      ·have HU:=zG (unzz_even hM2);have hM0:M % 2=0:=(by omega);rw[hM0] at eM;go_wp2_with fail;go_ret
       refine⟨_,rfl,Ho1.out,?_⟩;rw[←HE.out];exact⟨by show _=unzz _;rw[HMi.out,HU.out];first|omega|(rw[Int.tdiv_eq_ediv_of_nonneg (by omega)];unfold wrap64;omega),l',rfl,Hd0.out⟩
     ·have il:¬(x.toNat:Int)<128:=(by omega);have HE:=zG ((num_on hC hl).symm.trans Hn.out);have hk6:k+1≤6:=(by omega);clear dC hC;go_wp2_with fail;go_roundw
      case rel=>exact⟨k+1,m+x.toNat % 128*128 ^ k,by go_num,by go_num,Ho1.out,Hmn.out,by omega,.inl ⟨l',hk6,Hd0.out,by have:=HE.out;simpa using this⟩⟩
      case measure=>simp[intOf];omega
   ·have HE:=zG Hn.out;have G:=zG (byte_no g S wq Hd.out);have hmn:=grown128 (y:=0) Hm.out (by omega);have Hmn:=zG hmn;clear hmn;go_wp2_with fail;refine G.mono ?_;rintro en w1 ⟨rfl,ho1,v1,hd1⟩;have c1':w1.cell? ⟨g,1,none⟩=some (.int .i64 5):=cell_of_row w1 _ 1 _ _ _ hd1;have Ho1:=zG (Ho.trans ho1);have Hd1:=zG hd1;clear G ho1 hd1 c1;have e1:bits .and .i64 0 127=0:=(by decide);go_upto_region 8 with fail;go_cut [3] from 35 to 42 (fun s wx=>s= .int .i64 ((m:Nat):Int)∧wx=w1)
    case first=>
     have hmk:=Hm.out;rw[pow_seven] at hmk;rcases (show k=0∨k=1∨k=2∨k=3∨k=4∨k=5∨k=6 by omega) with rfl|rfl|rfl|rfl|rfl|rfl|rfl
     ·have e2:bits .or .i64 (m:Int) (0)=(m:Int):=(by have:=or_shifted m 0 0 hmk (by omega) (by omega);simpa using this);go_wp2_with fail;go_meet
      exact⟨rfl,rfl⟩
     ·have e2:bits .or .i64 (m:Int) (0)=(m:Int):=(by have:=or_shifted m 0 7 hmk (by omega) (by omega);simpa using this);go_wp2_with fail;go_meet
      exact⟨rfl,rfl⟩
     ·have e2:bits .or .i64 (m:Int) (0)=(m:Int):=(by have:=or_shifted m 0 14 hmk (by omega) (by omega);simpa using this);go_wp2_with fail;go_meet
      exact⟨rfl,rfl⟩
     ·have e2:bits .or .i64 (m:Int) (0)=(m:Int):=(by have:=or_shifted m 0 21 hmk (by omega) (by omega);simpa using this);go_wp2_with fail;go_meet
      exact⟨rfl,rfl⟩
     ·have e2:bits .or .i64 (m:Int) (0)=(m:Int):=(by have:=or_shifted m 0 28 hmk (by omega) (by omega);simpa using this);go_wp2_with fail;go_meet
      exact⟨rfl,rfl⟩
     ·have e2:bits .or .i64 (m:Int) (0)=(m:Int):=(by have:=or_shifted m 0 35 hmk (by omega) (by omega);simpa using this);go_wp2_with fail;go_meet
      exact⟨rfl,rfl⟩
     ·have e2:bits .or .i64 (m:Int) (0)=(m:Int):=(by have:=or_shifted m 0 42 hmk (by omega) (by omega);simpa using this);go_wp2_with fail;go_meet
      exact⟨rfl,rfl⟩
    case rest=>
    obtain⟨rfl,hwc⟩:=hcut;rw[hwc];clear hwc;obtain⟨M,hM⟩:∃M,m=M:=⟨_,rfl⟩;rw[hM];have hMs:M<4611686018427387904:=(by have:=Hmn.out;have:=pow_le7 (k:=k+1) (by omega);omega);have eM:=bits_and_one M hMs;by_cases hM2:M % 2=1
    ·rw[hM2] at eM;go_wp2_with fail;go_ret
     exact⟨_,rfl,⟨Ho1.out,by rw[←HE.out];exact⟨by decide,_,Hd1.out⟩⟩⟩
    ·have hM0:M % 2=0:=(by omega);rw[hM0] at eM;go_wp2_with fail;go_ret
     exact⟨_,rfl,⟨Ho1.out,by rw[←HE.out];exact⟨by decide,_,Hd1.out⟩⟩⟩
  ·have c1:wq.cell? ⟨g,1,none⟩=some (.int .i64 e):=cell_of_row wq _ 1 _ _ _ hd;have he0:(e==0)=false:=(by simpa using he);have Hd:=zG hd;have HE:=zG hn;clear hd hn;obtain⟨M,hM⟩:∃M,m=M:=⟨_,rfl⟩;rw[hM];have hMs:M<4611686018427387904:=(by have:=hmm;omega);have eM:=bits_and_one M hMs;by_cases hM2:M % 2=1
   ·rw[hM2] at eM;go_wp2_with fail;go_ret
    exact⟨_,rfl,⟨Ho.out,by rw[HE.out];exact⟨he,_,Hd.out⟩⟩⟩
   ·have hM0:M % 2=0:=(by omega);rw[hM0] at eM;go_wp2_with fail;go_ret
    exact⟨_,rfl,⟨Ho.out,by rw[HE.out];exact⟨he,_,Hd.out⟩⟩⟩
end
section
open Go.RowKit
theorem low_three (k:Nat) (h:k<4611686018427387904):bits .and .i64 (k:Int) 7=((k % 8:Nat):Int):=by
 have:=bits_and_i64_nat k 7 h (by omega);rw[show k&&& 7=k % 8 from Nat.and_two_pow_sub_one_eq_mod k 3] at this;exact this
def W4 (w:World) (b:Nat) (u0 u1 u2 u3:Value):World:=(((w.setCell ⟨b,0,none⟩ u0).setCell ⟨b,1,none⟩ u1).setCell ⟨b,2,none⟩ u2).setCell ⟨b,3,none⟩ u3
theorem W4.blk {w:World} {b:Nat} {x0 x1 x2 x3 u0 u1 u2 u3:Value} {t:TypeId} (h:w.heap[b]?=some (.cells #[x0,x1,x2,x3] t (0,0))):(W4 w b u0 u1 u2 u3).heap[b]?=some (.cells #[u0,u1,u2,u3] t (0,0)):=by
 unfold W4;exact jK (jK (jK (jK h _) _) _) _
theorem W4.other {w:World} {b b':Nat} {u0 u1 u2 u3:Value} (h:b'≠b):(W4 w b u0 u1 u2 u3).heap[b']?=w.heap[b']?:=by
 unfold W4;exact(Below.heap_setCell _ _ _ _ h).trans ((Below.heap_setCell _ _ _ _ h).trans ((Below.heap_setCell _ _ _ _ h).trans (Below.heap_setCell _ _ _ _ h)))
theorem Only.setNew {g:Nat} {w w':World} (h:Only g w w') (b k:Nat) (u:Value) (hb:w.heap.size≤b):Only g w (w'.setCell ⟨b,k,none⟩ u):=
 ⟨h.os,h.tape,h.output,by simpa using h.size,fun b' hb' hne=>(Below.heap_setCell _ _ _ _ (show b'≠b by omega)).trans (h.block b' hb' hne)⟩
theorem Only.W4 {g:Nat} {w w':World} (h:Only g w w') (b:Nat) (u0 u1 u2 u3:Value) (hb:w.heap.size≤b):Only g w (Go.Proofs.YtmgbhhabdapniaaGreatDoor.W4 w' b u0 u1 u2 u3):=
 (((h.setNew b 0 u0 hb).setNew b 1 u1 hb).setNew b 2 u2 hb).setNew b 3 u3 hb
theorem Only.alloc {g:Nat} {w w':World} (h:Only g w w') (o:Obj):Only g w (w'.alloc o):=
 ⟨h.os,h.tape,h.output,by have:=h.size;simp;omega,fun b hb hne=>(Below.heap_alloc _ _ _ (Nat.lt_of_lt_of_le hb h.size)).trans (h.block b hb hne)⟩
def Stands {α:Type} (w:World) (g:Nat) (S:Nat→Prop) (r:Except Int (α×List Int)) (P:α→Prop):Prop:=ReadTo (fun e=>∃v',rdr w g v' e) (RdrAt w g S) r P
theorem Stands.keep {α:Type} {w w':World} {g:Nat} {S:Nat→Prop} {r:Except Int (α×List Int)} {P:α→Prop} (h:Stands w g S r P) (hg:w'.heap[g]?=w.heap[g]?) (hS:∀b,S b→w'.heap[b]?=w.heap[b]?):Stands w' g S r P:=by
 unfold Stands ReadTo at*;split at h
 ·obtain⟨h1,v,h2⟩:=h;exact⟨h1,v,hg.trans h2⟩
 ·obtain⟨h1,l,h2,v,h3,h4⟩:=h;exact⟨h1,l,h2,v,hg.trans h3,h4.keep (by decide) (fun b _ hb=>⟨hb,hS b hb⟩)⟩
theorem RdrAt.sub {w w':World} {g:Nat} {S S':Nat→Prop} {l:List UInt8} (h:RdrAt w g S l) (hg:w'.heap[g]?=w.heap[g]?) (hS:∀b,b<w.heap.size→S b→S' b∧w'.heap[b]?=w.heap[b]?):RdrAt w' g S' l:=by
 obtain⟨v,h1,h2⟩:=h;exact⟨v,hg.trans h1,h2.keep (by decide) hS⟩
theorem Stands.wide {α:Type} {w:World} {g:Nat} {S S':Nat→Prop} {r:Except Int (α×List Int)} {P:α→Prop} (h:Stands w g S r P) (hS:∀b,S b→S' b):Stands w g S' r P:=by
 unfold Stands ReadTo at*;split at h
 ·exact h
 ·obtain⟨h1,l,h2,h3⟩:=h;exact⟨h1,l,h2,h3.sub rfl (fun b _ hb=>⟨hS b hb,rfl⟩)⟩
theorem rdr_lt {w:World} {g:Nat} {v:Value} {e:Int} (h:rdr w g v e):g<w.heap.size:=lK h
theorem RdrAt.lt {w:World} {g:Nat} {S:Nat→Prop} {l:List UInt8} (h:RdrAt w g S l):g<w.heap.size:=by obtain⟨v,h,-⟩:=h;exact rdr_lt h
theorem dV.only {w w':World} {g:Nat} (h:dV w) (ho:Only g w w') (hg:g≠0):dV w':=h.keep (ho.block _ h.lt (Ne.symm hg))
set_option maxHeartbeats 1000000 in
theorem numberR_bad (g:Nat) (v:Value) (e:Int) (w:World) (h:rdr w g v e) (he:(e==0)=false):Calls Tryz.prog 87 #[.pointer (some ⟨g,0,none⟩)] w fun en w'=>en= .returned (.int .i64 0)∧w=w':=by
 have c1:w.cell? ⟨g,1,none⟩=some (.int .i64 e):=cell_of_row w _ 1 _ _ _ h;have e1:bits .and .i64 0 1=0:=(by decide);clear h;go_enter Tryz.func87,Tryz.ntmps87
 go_wp2_with fail;go_loopw [3,4] (fun a b wr=>a= .int .i64 0∧b= .int .i64 0∧wr=w) (fun _ _ _=>0)
 case atStart=>exact⟨rfl,rfl,rfl⟩
 case round=>
  obtain⟨rfl,rfl,hw⟩:=hrel;rw[hw];go_wp2_with fail;go_ret
  exact⟨rfl,rfl⟩
theorem instr_far {x:UInt8} {l:List UInt8} (h:19<(x.toNat:Int)):instrF (I8 (x::l))= .error 3:=by
 rw[I8,List.map_cons,instrF,if_pos h]
theorem instr_regs {x:UInt8} {l:List UInt8} (h:¬19<(x.toNat:Int)) {e:Int} (hr:regsF x.toNat (I8 l)= .error e):instrF (I8 (x::l))= .error e:=by
 rw[I8,List.map_cons,instrF,if_neg h];show(match regsF x.toNat (I8 l) with| .error e=>_| .ok ((a,b),l)=>_)=_
 rw[hr]
theorem instr_next {x:UInt8} {l l1:List UInt8} (h:¬19<(x.toNat:Int)) {a b:Int} (hr:regsF x.toNat (I8 l)= .ok ((a,b),I8 l1)):instrF (I8 (x::l))=match nextF x.toNat (I8 l1) with| .error e=> .error e| .ok (n,l)=> .ok (⟨x.toNat,a,b,n⟩,l):=by
 rw[I8,List.map_cons,instrF,if_neg h];show(match regsF x.toNat (I8 l) with| .error e=>_| .ok ((a,b),l)=>_)=_
 rw[hr];rfl
set_option maxRecDepth 100000 in
set_option maxHeartbeats 4000000 in
theorem instrR_any (g:Nat) (S:Nat→Prop) (hg:¬S g) (l:List UInt8) (w:World) (h:RdrAt w g S l) (hu:dV w) (hgu:g≠0):
  Calls Tryz.prog 60 #[.pointer (some ⟨g,0,none⟩)] w fun en w'=>∃op a b n,en= .returned (.agg #[.int .i64 op,.int .i64 a,.int .i64 b,.int .i64 n])∧Only g w w'∧
   Stands w' g S (instrF (I8 l)) (fun i=>i=⟨op,a,b,n⟩):=by
 obtain⟨T,hT⟩:∃T:Nat→Prop,T=fun b=>S b∧b<w.heap.size:=⟨_,rfl⟩;have hgT:¬T g:=(by rw[hT];exact fun h=>hg h.1);have hTw:∀b,T b→b<w.heap.size:=(by rw[hT];exact fun b h=>h.2);have hgw:=h.lt;have Hst:∀(w':World) (i:Ins),Stands w' g T (instrF (I8 l)) (fun j=>j=i)→Stands w' g S (instrF (I8 l)) (fun j=>j=i):=fun w' i hs=>hs.wide (by rw[hT];exact fun b h=>h.1);have Hh:=zG (h.sub (S':=T) rfl (fun b hb hS=>⟨by rw[hT];exact⟨hS,hb⟩,rfl⟩));have Hu:=zG hu;have HST:=zG Hst;have HTw:=zG hTw;clear h hT hu Hst hTw hg;have Ho0:Only g w (w.alloc (.cells #[.int .i64 0,.int .i64 0,.int .i64 0,.int .i64 0] 83)):=(Only.refl g w).alloc _;have hb2:(w.alloc (.cells #[.int .i64 0,.int .i64 0,.int .i64 0,.int .i64 0] 83)).heap[w.heap.size]?=some (.cells #[.int .i64 0,.int .i64 0,.int .i64 0,.int .i64 0] 83 (0,0)):=heap_alloc_new w _;have hz0:w.heap.size+1=(w.alloc (.cells #[.int .i64 0,.int .i64 0,.int .i64 0,.int .i64 0] 83)).heap.size:=(by simp);have Hh0:=zG (Hh.sub (S':=T) (w':=w.alloc (.cells #[.int .i64 0,.int .i64 0,.int .i64 0,.int .i64 0] 83)) (Below.heap_alloc _ _ _ hgw) (fun b hb hS=>⟨hS,Below.heap_alloc _ _ _ hb⟩));go_enter Tryz.func60,Tryz.ntmps60
 go_upto_region 1 with fail;generalize w.alloc (.cells #[.int .i64 0,.int .i64 0,.int .i64 0,.int .i64 0] 83)=W0 at*;have Ho0':=zG Ho0;have Hb2:=zG hb2;obtain⟨b2,hbb⟩:∃b2,w.heap.size=b2:=⟨_,rfl⟩;rw[hbb] at Hb2 hz0 ⊢;have hgb2:g≠b2:=(by omega);clear Ho0 hb2;rcases l with _|⟨x,l⟩
 ·have G:=zG (byte_no g T W0 Hh0.out);go_wp2_with fail;refine G.mono ?_;rintro en w1 ⟨rfl,ho1,v1,hd1⟩;have hb3:(w1.alloc (.cells #[.int .i64 0,.int .i64 0,.int .i64 0,.int .i64 0] 83)).heap[w1.heap.size]?=some (.cells #[.int .i64 0,.int .i64 0,.int .i64 0,.int .i64 0] 83 (0,0)):=heap_alloc_new w1 _;have Ho1:=zG ((Ho0'.trans ho1).alloc (.cells #[.int .i64 0,.int .i64 0,.int .i64 0,.int .i64 0] 83));have hz1:=ho1.size;have hg1:g<w1.heap.size:=rdr_lt hd1;have Hd1:=zG (show rdr (w1.alloc (.cells #[.int .i64 0,.int .i64 0,.int .i64 0,.int .i64 0] 83)) g v1 _ from(Below.heap_alloc _ _ _ hg1).trans hd1);replace Hb2:=zG ((Below.heap_alloc w1 (.cells #[.int .i64 0,.int .i64 0,.int .i64 0,.int .i64 0] 83) _ (by omega)).trans ((ho1.block b2 (by omega) (Ne.symm hgb2)).trans Hb2.out));have HK:∀b,b<w1.heap.size→(w1.alloc (.cells #[.int .i64 0,.int .i64 0,.int .i64 0,.int .i64 0] 83)).heap[b]?=w1.heap[b]?:=fun b hb=>Below.heap_alloc _ _ _ hb;have hzz:w1.heap.size<(w1.alloc (.cells #[.int .i64 0,.int .i64 0,.int .i64 0,.int .i64 0] 83)).heap.size:=(by simp);clear ho1 hd1 G;go_upto_region 2 with fail;generalize w1.alloc (.cells #[.int .i64 0,.int .i64 0,.int .i64 0,.int .i64 0] 83)=W1 at*;have Hb3:=zG hb3;clear hb3;obtain⟨b3,hbb3⟩:∃b3,w1.heap.size=b3:=⟨_,rfl⟩;rw[hbb3] at Hb3 hzz ⊢;have hgb3:g≠b3:=(by omega);have hbn:b2≠b3:=(by omega);have o0:W1.cell? ⟨b3,0,none⟩=some (.int .i64 0):=cell_of_row W1 _ 0 _ _ _ Hb3.out;have o1:True:=trivial;have o2:True:=trivial;have o3:True:=trivial;have g0:True:=trivial;have c1:W1.cell? ⟨g,1,none⟩=some (.int .i64 5):=cell_of_row W1 _ 1 _ _ _ Hd1.out;have y0:W1.cell? ⟨b3,0,none⟩=some (.int .i64 0):=cell_of_row W1 _ 0 _ _ _ Hb3.out;have y1:W1.cell? ⟨b3,1,none⟩=some (.int .i64 0):=cell_of_row W1 _ 1 _ _ _ Hb3.out;have y2:W1.cell? ⟨b3,2,none⟩=some (.int .i64 0):=cell_of_row W1 _ 2 _ _ _ Hb3.out;have y3:W1.cell? ⟨b3,3,none⟩=some (.int .i64 0):=cell_of_row W1 _ 3 _ _ _ Hb3.out;have fz:∀i,W1.frozen? ⟨b2,i,none⟩=false:=fun i=>by have:=Hb2.out;simp[World.frozen?,this]
  have HS:=zG (show Stands W1 g T (instrF (I8 [])) (fun i=>i=⟨0,0,0,0⟩) from by unfold Stands;exact⟨by decide,v1,Hd1.out⟩);have hb2s:b2<W1.heap.size:=lK Hb2.out;have q0:W1.cell? ⟨b2,0,none⟩=some (.int .i64 0):=cell_of_row W1 _ 0 _ _ _ Hb2.out;have q1:W1.cell? ⟨b2,1,none⟩=some (.int .i64 0):=cell_of_row W1 _ 1 _ _ _ Hb2.out;have q2:W1.cell? ⟨b2,2,none⟩=some (.int .i64 0):=cell_of_row W1 _ 2 _ _ _ Hb2.out;have q3:W1.cell? ⟨b2,3,none⟩=some (.int .i64 0):=cell_of_row W1 _ 3 _ _ _ Hb2.out;go_wp2_with fail;have hw4:=W4.blk (u0:= .int .i64 0) (u1:= .int .i64 0) (u2:= .int .i64 0) (u3:= .int .i64 0) Hb2.out;have z0:=cell_of_row _ _ 0 _ _ _ hw4;have z1:=cell_of_row _ _ 1 _ _ _ hw4;have z2:=cell_of_row _ _ 2 _ _ _ hw4;have z3:=cell_of_row _ _ 3 _ _ _ hw4;unfold W4 at z0 z1 z2 z3;refine bodyPost_ret (v:= .agg #[.int .i64 0,.int .i64 0,.int .i64 0,.int .i64 0]) (by simp[results,Tryz.results60,go_sem,z0,z1,z2,z3]) rfl ⟨_,_,_,_,rfl,?_,HST.out _ _ (HS.keep (W4.other hgb2) (fun b hb=>W4.other (by have:=HTw.out b hb;omega)))⟩;exact Only.W4 Ho1.out b2 _ _ _ _ (by omega)
 have G:=zG (byte_ok g T hgT x l W0 Hh0.out);have hx256:=x.toNat_lt;go_wp2_with fail;refine G.mono ?_;rintro en w1 ⟨rfl,ho1,v1,hd1,hr1⟩;have hb3:(w1.alloc (.cells #[.int .i64 x.toNat,.int .i64 0,.int .i64 0,.int .i64 0] 83)).heap[w1.heap.size]?=some (.cells #[.int .i64 x.toNat,.int .i64 0,.int .i64 0,.int .i64 0] 83 (0,0)):=heap_alloc_new w1 _;have Ho1:=zG ((Ho0'.trans ho1).alloc (.cells #[.int .i64 x.toNat,.int .i64 0,.int .i64 0,.int .i64 0] 83));have hz1:=ho1.size;have hg1:g<w1.heap.size:=rdr_lt hd1;have Hd1:=zG (show rdr (w1.alloc (.cells #[.int .i64 x.toNat,.int .i64 0,.int .i64 0,.int .i64 0] 83)) g v1 _ from(Below.heap_alloc _ _ _ hg1).trans hd1);replace Hb2:=zG ((Below.heap_alloc w1 (.cells #[.int .i64 x.toNat,.int .i64 0,.int .i64 0,.int .i64 0] 83) _ (by omega)).trans ((ho1.block b2 (by omega) (Ne.symm hgb2)).trans Hb2.out));have HK:∀b,b<w1.heap.size→(w1.alloc (.cells #[.int .i64 x.toNat,.int .i64 0,.int .i64 0,.int .i64 0] 83)).heap[b]?=w1.heap[b]?:=fun b hb=>Below.heap_alloc _ _ _ hb;have hzz:w1.heap.size<(w1.alloc (.cells #[.int .i64 x.toNat,.int .i64 0,.int .i64 0,.int .i64 0] 83)).heap.size:=(by simp);clear ho1 hd1 G;go_upto_region 2 with fail;generalize w1.alloc (.cells #[.int .i64 x.toNat,.int .i64 0,.int .i64 0,.int .i64 0] 83)=W1 at*;have Hb3:=zG hb3;clear hb3;obtain⟨b3,hbb3⟩:∃b3,w1.heap.size=b3:=⟨_,rfl⟩;rw[hbb3] at Hb3 hzz ⊢;have hgb3:g≠b3:=(by omega);have hbn:b2≠b3:=(by omega);have o0:W1.cell? ⟨b3,0,none⟩=some (.int .i64 x.toNat):=cell_of_row W1 _ 0 _ _ _ Hb3.out;have o1:True:=trivial;have o2:True:=trivial;have o3:True:=trivial;have g0:True:=trivial;have Hr1:=zG (hr1.keep (by decide) (S':=T) (w':=W1) (fun b hb hS=>⟨hS,HK b hb⟩));clear hr1;have c1:W1.cell? ⟨g,1,none⟩=some (.int .i64 0):=cell_of_row W1 _ 1 _ _ _ Hd1.out;have f1:∀i,W1.frozen? ⟨g,i,none⟩=false:=fun i=>by have:=Hd1.out;unfold rdr at this;simp[World.frozen?,this]
 by_cases hop:(19:Int)<(x.toNat:Int)
 ·have HE:=zG (instr_far (l:=l) hop);go_upto_region 4 with fail;have Ho2:=zG (Ho1.set 1 (.int .i64 3));have Hd2:=zG (rdr_set Hd1.out 3);have Hb2':=zG ((Below.heap_setCell W1 ⟨g,1,none⟩ (.int .i64 3) b2 (Ne.symm hgb2)).trans Hb2.out);have Hb3':=zG ((Below.heap_setCell W1 ⟨g,1,none⟩ (.int .i64 3) b3 (Ne.symm hgb3)).trans Hb3.out);have hz2:W1.heap.size=(W1.setCell ⟨g,1,none⟩ (.int .i64 3)).heap.size:=(by simp);replace Hb2:=Hb2';replace Hb3:=Hb3';clear c1 f1 Hb2' Hb3' Hr1 o0 o1 o2 o3 g0 HK;generalize W1.setCell ⟨g,1,none⟩ (.int .i64 3)=W2 at*;have c1:W2.cell? ⟨g,1,none⟩=some (.int .i64 3):=cell_of_row W2 _ 1 _ _ _ Hd2.out;have y0:W2.cell? ⟨b3,0,none⟩=some (.int .i64 x.toNat):=cell_of_row W2 _ 0 _ _ _ Hb3.out;have y1:W2.cell? ⟨b3,1,none⟩=some (.int .i64 0):=cell_of_row W2 _ 1 _ _ _ Hb3.out;have y2:W2.cell? ⟨b3,2,none⟩=some (.int .i64 0):=cell_of_row W2 _ 2 _ _ _ Hb3.out;have y3:W2.cell? ⟨b3,3,none⟩=some (.int .i64 0):=cell_of_row W2 _ 3 _ _ _ Hb3.out;have fz:∀i,W2.frozen? ⟨b2,i,none⟩=false:=fun i=>by have:=Hb2.out;simp[World.frozen?,this]
  have HS:=zG (show Stands W2 g T (instrF (I8 (x::l))) (fun i=>i=⟨x.toNat,0,0,0⟩) from by rw[HE.out];unfold Stands;exact⟨by decide,v1,Hd2.out⟩);have hb2s:b2<W2.heap.size:=lK Hb2.out;have q0:W2.cell? ⟨b2,0,none⟩=some (.int .i64 0):=cell_of_row W2 _ 0 _ _ _ Hb2.out;have q1:W2.cell? ⟨b2,1,none⟩=some (.int .i64 0):=cell_of_row W2 _ 1 _ _ _ Hb2.out;have q2:W2.cell? ⟨b2,2,none⟩=some (.int .i64 0):=cell_of_row W2 _ 2 _ _ _ Hb2.out;have q3:W2.cell? ⟨b2,3,none⟩=some (.int .i64 0):=cell_of_row W2 _ 3 _ _ _ Hb2.out;go_wp2_with fail;have hw4:=W4.blk (u0:= .int .i64 x.toNat) (u1:= .int .i64 0) (u2:= .int .i64 0) (u3:= .int .i64 0) Hb2.out;have z0:=cell_of_row _ _ 0 _ _ _ hw4;have z1:=cell_of_row _ _ 1 _ _ _ hw4;have z2:=cell_of_row _ _ 2 _ _ _ hw4;have z3:=cell_of_row _ _ 3 _ _ _ hw4;unfold W4 at z0 z1 z2 z3;refine bodyPost_ret (v:= .agg #[.int .i64 x.toNat,.int .i64 0,.int .i64 0,.int .i64 0]) (by simp[results,Tryz.results60,go_sem,z0,z1,z2,z3]) rfl ⟨_,_,_,_,rfl,?_,HST.out _ _ (HS.keep (W4.other hgb2) (fun b hb=>W4.other (by have:=HTw.out b hb;omega)))⟩;exact Only.W4 Ho2.out b2 _ _ _ _ (by omega)
 have hop0:0≤(x.toNat:Int)∧(x.toNat:Int)≤19:=(by omega);obtain⟨u,hu1,hu2,hu3⟩:=uses_bits hop0;rw[Int.toNat_natCast] at hu1;have Hop:=zG hop;obtain⟨xa,hxa⟩:∃xa,aB (x.toNat:Int)=xa:=⟨_,rfl⟩;obtain⟨xb,hxb⟩:∃xb,nB (x.toNat:Int)=xb:=⟨_,rfl⟩;rw[hxa] at hu2;rw[hxb] at hu3;have Hxa:=zG hxa;have Hxb:=zG hxb;have Hu1:=zG hu1;clear hxa hxb hu1;have cu:W1.cell? ⟨0,x.toNat,none⟩=some (.int .i64 u):=(Hu.only Ho1.out hgu) _ u Hu1.out;have k0:(0:Int)≤(x.toNat:Int):=(by omega);have k1:(x.toNat:Int)<20:=(by omega);have hgb:g<b2:=(by omega);have hgub:0<b2:=(by have:=Hu.lt;omega);generalize hxo:x.toNat=o at*;have Hxo:=zG hxo;clear hxo;go_upto_if 32 with fail
 go_cut [4] from 33 to 53 (fun _ wx=>∃a b:Int,Only g w wx∧wx.heap[b2]?=some (.cells #[.int .i64 0,.int .i64 0,.int .i64 0,.int .i64 0] 83 (0,0))∧
  wx.heap[b3]?=some (.cells #[.int .i64 o,.int .i64 a,.int .i64 b,.int .i64 0] 83 (0,0))∧Stands wx g T (regsF o (I8 l)) (fun ab=>ab=(a,b)))
 case first=>
  cases xa
  ·have hrg:regsF o (I8 l)= .ok ((0,0),I8 l):=(by unfold regsF;rw[Hxa.out];rfl);have HE:=zG hrg;clear hrg;go_wp2_with fail;go_meet
   exact⟨0,0,Ho1.out,Hb2.out,Hb3.out,by rw[HE.out];exact⟨rfl,l,rfl,v1,Hd1.out,Hr1.out⟩⟩
  ·rcases l with _|⟨c,l⟩
   ·have hrg:regsF o (I8 [])= .error 5:=(by unfold regsF;rw[Hxa.out];rfl);have HE:=zG hrg;have G:=zG (byte_no g T W1 ⟨v1,Hd1.out,Hr1.out⟩);have e7:bits .and .i64 0 7=0:=(by decide);clear hrg;go_wp2_with fail;refine G.mono ?_;rintro en w3 ⟨rfl,ho3,v3,hd3⟩;have Ho3:=zG (Ho1.trans ho3);have Hd3:=zG hd3;have c3:w3.cell? ⟨g,1,none⟩=some (.int .i64 5):=cell_of_row w3 _ 1 _ _ _ hd3;have Hb2':=zG ((ho3.block b2 (lK Hb2.out) (Ne.symm hgb2)).trans Hb2.out);have Hb3':=zG ((ho3.block b3 (lK Hb3.out) (Ne.symm hgb3)).trans Hb3.out);have f3:∀i,w3.frozen? ⟨b3,i,none⟩=false:=fun i=>by have:=Hb3'.out;simp[World.frozen?,this]
    have hb3w:b3<w3.heap.size:=lK Hb3'.out;have o4:w3.cell? ⟨b3,1,none⟩=some (.int .i64 0):=cell_of_row w3 _ 1 _ _ _ Hb3'.out;have o5:w3.cell? ⟨b3,2,none⟩=some (.int .i64 0):=cell_of_row w3 _ 2 _ _ _ Hb3'.out;clear G ho3 hd3 c1 f1 cu o0 o1 o2 o3 g0 HK;go_wp2_with fail;go_meet
    refine⟨0,0,(Ho3.setNew b3 1 _ (by omega)).setNew b3 2 _ (by omega),?_,?_,?_⟩
    ·exact(Below.heap_setCell _ _ _ _ hbn).trans ((Below.heap_setCell _ _ _ _ hbn).trans Hb2'.out)
    ·exact jK (jK Hb3'.out _) _
    ·rw[HE.out];exact⟨by decide,v3,(Below.heap_setCell _ _ _ _ hgb3).trans ((Below.heap_setCell _ _ _ _ hgb3).trans Hd3.out)⟩
   ·have hc256:=c.toNat_lt;have hrg:regsF o (I8 (c::l))=if 63<(c.toNat:Int) then .error 4 else .ok (((c.toNat:Int) % 8,(c.toNat:Int) / 8),I8 l):=by unfold regsF;rw[Hxa.out];rfl
    have G:=zG (byte_ok g T hgT c l W1 ⟨v1,Hd1.out,Hr1.out⟩);have e7:=low_three c.toNat (by omega);have e8:=low_three (c.toNat / 8) (by omega);have e9:((c.toNat / 8:Nat):Int)=(c.toNat:Int) / 8:=(by omega);rw[e9] at e8;have HRG:=zG hrg;clear hrg e9;go_wp2_with fail;refine G.mono ?_;rintro en w3 ⟨rfl,ho3,v3,hd3,hr3⟩;have Ho3:=zG (Ho1.trans ho3);have Hd3:=zG hd3;have Hr3:=zG hr3;have c3:w3.cell? ⟨g,1,none⟩=some (.int .i64 0):=cell_of_row w3 _ 1 _ _ _ hd3;have f4:∀i,w3.frozen? ⟨g,i,none⟩=false:=fun i=>by have:=Hd3.out;unfold rdr at this;simp[World.frozen?,this]
    have Hb2':=zG ((ho3.block b2 (lK Hb2.out) (Ne.symm hgb2)).trans Hb2.out);have Hb3':=zG ((ho3.block b3 (lK Hb3.out) (Ne.symm hgb3)).trans Hb3.out);have f3:∀i,w3.frozen? ⟨b3,i,none⟩=false:=fun i=>by have:=Hb3'.out;simp[World.frozen?,this]
    have hb3w:b3<w3.heap.size:=lK Hb3'.out;have o4:w3.cell? ⟨b3,1,none⟩=some (.int .i64 0):=cell_of_row w3 _ 1 _ _ _ Hb3'.out;have o5:w3.cell? ⟨b3,2,none⟩=some (.int .i64 0):=cell_of_row w3 _ 2 _ _ _ Hb3'.out;clear G ho3 hd3 hr3 c1 f1 cu o0 o1 o2 o3 g0 HK;by_cases h63:(63:Int)<(c.toNat:Int)
    ·have HE:=zG (HRG.trans (if_pos h63));go_wp2_with fail;go_meet
     refine⟨(c.toNat:Int) % 8,(c.toNat:Int) / 8 % 8,((Ho3.set 1 (.int .i64 4)).setNew b3 1 _ (by omega)).setNew b3 2 _ (by omega),?_,?_,?_⟩
     ·exact(Below.heap_setCell _ _ _ _ hbn).trans ((Below.heap_setCell _ _ _ _ hbn).trans ((Below.heap_setCell _ _ _ _ (Ne.symm hgb2)).trans Hb2'.out))
     ·exact jK (jK ((Below.heap_setCell _ _ _ _ (Ne.symm hgb3)).trans Hb3'.out) _) _
     ·rw[HE.out];exact⟨by decide,v3,(Below.heap_setCell _ _ _ _ hgb3).trans ((Below.heap_setCell _ _ _ _ hgb3).trans (rdr_set Hd3.out 4))⟩
    ·have HE:=zG (HRG.trans (if_neg h63));have hc8:(((c.toNat / 8 % 8:Nat)):Int)=(c.toNat:Int) / 8:=(by omega);have hc9:((c.toNat % 8:Nat):Int)=(c.toNat:Int) % 8:=(by omega);have HC8:=zG hc8;have HC9:=zG hc9;clear hc8 hc9;go_wp2_with fail;go_meet
     refine⟨(c.toNat:Int) % 8,(c.toNat:Int) / 8 % 8,(Ho3.setNew b3 1 _ (by omega)).setNew b3 2 _ (by omega),?_,?_,?_⟩
     ·exact(Below.heap_setCell _ _ _ _ hbn).trans ((Below.heap_setCell _ _ _ _ hbn).trans Hb2'.out)
     ·exact jK (jK Hb3'.out _) _
     ·rw[HE.out];refine⟨by rw[show(c.toNat:Int) / 8 % 8=(c.toNat:Int) / 8 by omega],l,rfl,v3,(Below.heap_setCell _ _ _ _ hgb3).trans ((Below.heap_setCell _ _ _ _ hgb3).trans Hd3.out),Hr3.keep (by decide) (fun b hb hS=>⟨hS,?_⟩)⟩;have:=HTw.out b hS;exact(Below.heap_setCell _ _ _ _ (show b≠b3 by omega)).trans (Below.heap_setCell _ _ _ _ (show b≠b3 by omega))
 case rest=>
 obtain⟨a,b,ho5,hb25,hb35,hst5⟩:=hcut;have Ho5:=zG ho5;have Hb25:=zG hb25;have Hb35:=zG hb35;have cu:wc.cell? ⟨0,o,none⟩=some (.int .i64 u):=(Hu.only ho5 hgu) _ u Hu1.out;have d0:wc.cell? ⟨b3,0,none⟩=some (.int .i64 o):=cell_of_row wc _ 0 _ _ _ hb35;have hb3w:b3<wc.heap.size:=lK hb35;clear ho5 hb25 hb35 c1 f1 Hb2 Hb3 Hd1 Hr1 o0 o1 o2 o3 g0 HK
 cases xb
 ·have hE:Stands wc g T (instrF (I8 (x::l))) (fun i=>i=⟨o,a,b,0⟩):=by
   unfold Stands ReadTo at hst5;split at hst5
   ·rename_i e he
    rw[←Hxo.out] at he;rw[instr_regs (by rw[Hxo.out];exact Hop.out) he];exact hst5
   ·rename_i ab t he
    obtain⟨rfl,l1,rfl,hg1⟩:=hst5;rw[←Hxo.out] at he;rw[instr_next (by rw[Hxo.out];exact Hop.out) he];have hnx:nextF x.toNat (I8 l1)= .ok (0,I8 l1):=(by unfold nextF;rw[Hxo.out,Hxb.out];rfl);rw[hnx,Hxo.out];exact⟨rfl,l1,rfl,hg1⟩
  have HE:=zG hE;clear hE hst5;have Hb2:=Hb25;have hcd:True:=trivial;have y0:wc.cell? ⟨b3,0,none⟩=some (.int .i64 o):=cell_of_row wc _ 0 _ _ _ Hb35.out;have y1:wc.cell? ⟨b3,1,none⟩=some (.int .i64 a):=cell_of_row wc _ 1 _ _ _ Hb35.out;have y2:wc.cell? ⟨b3,2,none⟩=some (.int .i64 b):=cell_of_row wc _ 2 _ _ _ Hb35.out;have y3:wc.cell? ⟨b3,3,none⟩=some (.int .i64 0):=cell_of_row wc _ 3 _ _ _ Hb35.out;have fz:∀i,wc.frozen? ⟨b2,i,none⟩=false:=fun i=>by have:=Hb2.out;simp[World.frozen?,this]
  have HS:=zG (show Stands wc g T (instrF (I8 (x::l))) (fun i=>i=⟨o,a,b,0⟩) from HE.out);have hb2s:b2<wc.heap.size:=lK Hb2.out;have q0:wc.cell? ⟨b2,0,none⟩=some (.int .i64 0):=cell_of_row wc _ 0 _ _ _ Hb2.out;have q1:wc.cell? ⟨b2,1,none⟩=some (.int .i64 0):=cell_of_row wc _ 1 _ _ _ Hb2.out;have q2:wc.cell? ⟨b2,2,none⟩=some (.int .i64 0):=cell_of_row wc _ 2 _ _ _ Hb2.out;have q3:wc.cell? ⟨b2,3,none⟩=some (.int .i64 0):=cell_of_row wc _ 3 _ _ _ Hb2.out;go_wp2_with fail;have hw4:=W4.blk (u0:= .int .i64 o) (u1:= .int .i64 a) (u2:= .int .i64 b) (u3:= .int .i64 0) Hb2.out;have z0:=cell_of_row _ _ 0 _ _ _ hw4;have z1:=cell_of_row _ _ 1 _ _ _ hw4;have z2:=cell_of_row _ _ 2 _ _ _ hw4;have z3:=cell_of_row _ _ 3 _ _ _ hw4;unfold W4 at z0 z1 z2 z3;refine bodyPost_ret (v:= .agg #[.int .i64 o,.int .i64 a,.int .i64 b,.int .i64 0]) (by simp[results,Tryz.results60,go_sem,z0,z1,z2,z3]) rfl ⟨_,_,_,_,rfl,?_,HST.out _ _ (HS.keep (W4.other hgb2) (fun b hb=>W4.other (by have:=HTw.out b hb;omega)))⟩;exact Only.W4 Ho5.out b2 _ _ _ _ (by omega)
 ·unfold Stands ReadTo at hst5;split at hst5
  ·rename_i e he
   obtain⟨he0,v5,hd5⟩:=hst5;have HE:=zG (show instrF (I8 (x::l))= .error e by rw[←Hxo.out] at he;exact instr_regs (by rw[Hxo.out];exact Hop.out) he);have G:=zG (numberR_bad g v5 e wc hd5 (by simpa using he0));have Hd5:=zG hd5;clear hd5 he;go_wp2_with fail;refine G.mono ?_;rintro en w7 ⟨rfl,rfl⟩;clear G;have hb3w':b3<wc.heap.size:=lK Hb35.out;have fz3:∀i,wc.frozen? ⟨b3,i,none⟩=false:=fun i=>by have:=Hb35.out;simp[World.frozen?,this]
   have hX3:(wc.setCell ⟨b3,3,none⟩ (.int .i64 0)).heap[b3]?=some (.cells #[.int .i64 o,.int .i64 a,.int .i64 b,.int .i64 0] 83 (0,0)):=jK Hb35.out _;have hX2:(wc.setCell ⟨b3,3,none⟩ (.int .i64 0)).heap[b2]?=some (.cells #[.int .i64 0,.int .i64 0,.int .i64 0,.int .i64 0] 83 (0,0)):=(Below.heap_setCell _ _ _ _ hbn).trans Hb25.out;have hXo:Only g w (wc.setCell ⟨b3,3,none⟩ (.int .i64 0)):=Ho5.setNew b3 3 _ (by omega);have hXk:∀b,b≠b3→(wc.setCell ⟨b3,3,none⟩ (.int .i64 0)).heap[b]?=wc.heap[b]?:=fun b hb=>Below.heap_setCell _ _ _ _ hb;have hXs:(wc.setCell ⟨b3,3,none⟩ (.int .i64 0)).heap.size=wc.heap.size:=(by simp);have d3:wc.cell? ⟨b3,3,none⟩=some (.int .i64 0):=cell_of_row wc _ 3 _ _ _ Hb35.out;go_upto_region 13 with fail;generalize wc.setCell ⟨b3,3,none⟩ (.int .i64 0)=W8 at*;clear fz3 d3 d0;have Hb2:=zG hX2;have HX3:=zG hX3;have y0:W8.cell? ⟨b3,0,none⟩=some (.int .i64 o):=cell_of_row W8 _ 0 _ _ _ hX3;have y1:W8.cell? ⟨b3,1,none⟩=some (.int .i64 a):=cell_of_row W8 _ 1 _ _ _ hX3;have y2:W8.cell? ⟨b3,2,none⟩=some (.int .i64 b):=cell_of_row W8 _ 2 _ _ _ hX3;have y3:W8.cell? ⟨b3,3,none⟩=some (.int .i64 0):=cell_of_row W8 _ 3 _ _ _ hX3;have fz:∀i,W8.frozen? ⟨b2,i,none⟩=false:=fun i=>by have:=Hb2.out;simp[World.frozen?,this]
   have hb2s:b2<W8.heap.size:=lK Hb2.out;have q0:W8.cell? ⟨b2,0,none⟩=some (.int .i64 0):=cell_of_row W8 _ 0 _ _ _ Hb2.out;have q1:W8.cell? ⟨b2,1,none⟩=some (.int .i64 0):=cell_of_row W8 _ 1 _ _ _ Hb2.out;have q2:W8.cell? ⟨b2,2,none⟩=some (.int .i64 0):=cell_of_row W8 _ 2 _ _ _ Hb2.out;have q3:W8.cell? ⟨b2,3,none⟩=some (.int .i64 0):=cell_of_row W8 _ 3 _ _ _ Hb2.out;have HXo:=zG hXo;have HXk:=zG hXk;clear hX2 hX3 hXo hXk;go_wp2_with fail;have hw4:=W4.blk (u0:= .int .i64 o) (u1:= .int .i64 a) (u2:= .int .i64 b) (u3:= .int .i64 0) Hb2.out;have z0:=cell_of_row _ _ 0 _ _ _ hw4;have z1:=cell_of_row _ _ 1 _ _ _ hw4;have z2:=cell_of_row _ _ 2 _ _ _ hw4;have z3:=cell_of_row _ _ 3 _ _ _ hw4;unfold W4 at z0 z1 z2 z3;refine bodyPost_ret (v:= .agg #[.int .i64 o,.int .i64 a,.int .i64 b,.int .i64 0]) (by simp[results,Tryz.results60,go_sem,z0,z1,z2,z3]) rfl ⟨_,_,_,_,rfl,Only.W4 HXo.out b2 _ _ _ _ (by omega),HST.out _ _ ?_⟩;rw[HE.out];exact⟨he0,v5,(W4.other hgb2).trans ((HXk.out _ hgb3).trans Hd5.out)⟩
  ·rename_i ab t he
   obtain⟨rfl,l1,rfl,hg1⟩:=hst5;have HE:=zG (show instrF (I8 (x::l))=(match nextF x.toNat (I8 l1) with| .error e=> .error e| .ok (n,l)=> .ok (⟨x.toNat,a,b,n⟩,l)) by rw[←Hxo.out] at he;exact instr_next (by rw[Hxo.out];exact Hop.out) he);have G:=zG (numberR_any g T hgT l1 wc hg1);have HNX:=zG (show nextF x.toNat (I8 l1)=(match numF (I8 l1) 0 0 with| .error e=> .error e| .ok (n,l)=> .ok (unzz n,l)) by unfold nextF;rw[Hxo.out,Hxb.out];rfl);clear he hg1;go_wp2_with fail;refine G.mono ?_;rintro en w7 ⟨n,rfl,ho7,hst7⟩;have Ho7:=zG (Ho5.trans ho7);have Hst7:=zG hst7;have Hb27:=zG ((ho7.block b2 (lK Hb25.out) (Ne.symm hgb2)).trans Hb25.out);have Hb37:=zG ((ho7.block b3 (lK Hb35.out) (Ne.symm hgb3)).trans Hb35.out);clear G ho7 hst7 d0 cu;replace Hb25:=Hb27;replace Hb35:=Hb37;have hb3w':b3<w7.heap.size:=lK Hb35.out;have fz3:∀i,w7.frozen? ⟨b3,i,none⟩=false:=fun i=>by have:=Hb35.out;simp[World.frozen?,this]
   have hX3:(w7.setCell ⟨b3,3,none⟩ (.int .i64 n)).heap[b3]?=some (.cells #[.int .i64 o,.int .i64 a,.int .i64 b,.int .i64 n] 83 (0,0)):=jK Hb35.out _;have hX2:(w7.setCell ⟨b3,3,none⟩ (.int .i64 n)).heap[b2]?=some (.cells #[.int .i64 0,.int .i64 0,.int .i64 0,.int .i64 0] 83 (0,0)):=(Below.heap_setCell _ _ _ _ hbn).trans Hb25.out;have hXo:Only g w (w7.setCell ⟨b3,3,none⟩ (.int .i64 n)):=Ho7.setNew b3 3 _ (by omega);have hXk:∀b,b≠b3→(w7.setCell ⟨b3,3,none⟩ (.int .i64 n)).heap[b]?=w7.heap[b]?:=fun b hb=>Below.heap_setCell _ _ _ _ hb;have hXs:(w7.setCell ⟨b3,3,none⟩ (.int .i64 n)).heap.size=w7.heap.size:=(by simp);have d3:w7.cell? ⟨b3,3,none⟩=some (.int .i64 0):=cell_of_row w7 _ 3 _ _ _ Hb35.out;go_upto_region 13 with fail;generalize w7.setCell ⟨b3,3,none⟩ (.int .i64 n)=W8 at*;clear fz3 d3;have Hb2:=zG hX2;have HX3:=zG hX3;have y0:W8.cell? ⟨b3,0,none⟩=some (.int .i64 o):=cell_of_row W8 _ 0 _ _ _ hX3;have y1:W8.cell? ⟨b3,1,none⟩=some (.int .i64 a):=cell_of_row W8 _ 1 _ _ _ hX3;have y2:W8.cell? ⟨b3,2,none⟩=some (.int .i64 b):=cell_of_row W8 _ 2 _ _ _ hX3;have y3:W8.cell? ⟨b3,3,none⟩=some (.int .i64 n):=cell_of_row W8 _ 3 _ _ _ hX3;have fz:∀i,W8.frozen? ⟨b2,i,none⟩=false:=fun i=>by have:=Hb2.out;simp[World.frozen?,this]
   have hb2s:b2<W8.heap.size:=lK Hb2.out;have q0:W8.cell? ⟨b2,0,none⟩=some (.int .i64 0):=cell_of_row W8 _ 0 _ _ _ Hb2.out;have q1:W8.cell? ⟨b2,1,none⟩=some (.int .i64 0):=cell_of_row W8 _ 1 _ _ _ Hb2.out;have q2:W8.cell? ⟨b2,2,none⟩=some (.int .i64 0):=cell_of_row W8 _ 2 _ _ _ Hb2.out;have q3:W8.cell? ⟨b2,3,none⟩=some (.int .i64 0):=cell_of_row W8 _ 3 _ _ _ Hb2.out;have HXo:=zG hXo;have HXk:=zG hXk;clear hX2 hX3 hXo hXk;go_wp2_with fail;have hw4:=W4.blk (u0:= .int .i64 o) (u1:= .int .i64 a) (u2:= .int .i64 b) (u3:= .int .i64 n) Hb2.out;have z0:=cell_of_row _ _ 0 _ _ _ hw4;have z1:=cell_of_row _ _ 1 _ _ _ hw4;have z2:=cell_of_row _ _ 2 _ _ _ hw4;have z3:=cell_of_row _ _ 3 _ _ _ hw4;unfold W4 at z0 z1 z2 z3;refine bodyPost_ret (v:= .agg #[.int .i64 o,.int .i64 a,.int .i64 b,.int .i64 n]) (by simp[results,Tryz.results60,go_sem,z0,z1,z2,z3]) rfl ⟨_,_,_,_,rfl,Only.W4 HXo.out b2 _ _ _ _ (by omega),HST.out _ _ ?_⟩;rw[HE.out,HNX.out];have hs:=Hst7.out;unfold ReadTo at hs;split at hs
   ·rename_i e he
    obtain⟨he0,v7,hd7⟩:=hs;rw[he];exact⟨he0,v7,(W4.other hgb2).trans ((HXk.out _ hgb3).trans hd7)⟩
   ·rename_i m t he
    obtain⟨hm,l2,rfl,hg2⟩:=hs;rw[he];exact⟨by rw[hm,Hxo.out],l2,rfl,hg2.sub ((W4.other hgb2).trans (HXk.out _ hgb3)) (fun b hb hS=>⟨hS,(W4.other (by have:=HTw.out b hS;omega)).trans (HXk.out b (by have:=HTw.out b hS;omega))⟩)⟩
end
section
open Go.RowKit
theorem infoSI:(Tryz.prog.info? 84).map (fun i=>(i.zero,i.size,i.bytes))=some (some (.slice none 0 0),1,24):=by kernel_rfl
theorem fr_set {B n i g:Nat} {w0 w:World} {R:List Res} {cs cs':Array Value} {t:TypeId} (_h:St B w0 w R) (hi:R[i]?=some (.blk g cs t)) {b:Nat} (h:Fr n R b):Fr n (R.set i (.blk g cs' t)) b:=
 ⟨h.1,fun r hr hf=>by
  rcases List.mem_or_eq_of_mem_set hr with h'|rfl
  ·exact h.2 r h' hf
  ·exact h.2 _ (zF hi) hf⟩
theorem not_fr {n i g:Nat} {R:List Res} {cs:Array Value} {t:TypeId} (hi:R[i]?=some (.blk g cs t)):¬Fr n R g:=fun h=>h.2 _ (zF hi) rfl
theorem not_uses {B i g:Nat} {w0 w:World} {R:List Res} {cs:Array Value} {t:TypeId} (h:St B w0 w R) (hu:dV w0) (hB:B=w0.heap.size) (hi:R[i]?=some (.blk g cs t)):g≠0:=fun e=>by
 have h1:=(h.in_ i hi (b:=g) rfl).1;have:=hu.lt;omega
def DecD (w:World) (r:Except Int (List (List Ins))) (en:Ending) (w':World):Prop:=
 ∃A d,en= .returned (.tuple #[.agg #[.slice A (okL r).length d],.int .i64 (errL r)])∧aj pgE w' (fun b=>w.heap.size≤b) (.slice A (okL r).length d) (okL r)∧Below w.heap.size w w'
theorem DecD.bad {w w':World} {e:Int} {r:Except Int (List (List Ins))} (hr:r= .error e) (hb:Below w.heap.size w w'):DecD w r (.returned (.tuple #[.agg #[.slice none 0 0],.int .i64 e])) w':=by
 rw[hr];exact⟨none,0,rfl,aj.nil,hb⟩
set_option maxRecDepth 100000 in
set_option maxHeartbeats 8000000 in
theorem decode_any (S:Nat→Prop) (A:Option Addr) (c:Nat) (l:List UInt8) (w:World) (hu:dV w) (hr:aj bE w S (.slice A l.length c) l):
  Calls Tryz.prog 25 #[.slice A l.length c] w (DecD w (progD (I8 l))):=by
 have HB:=zG hr;have Hu:=zG hu;clear hr hu;have T0:St w.heap.size w (w.alloc (.cells #[.slice none 0 0] 24)) [.blk w.heap.size #[.slice none 0 0] 24]:=((St.start w (Nat.le_refl _)).new' #[.slice none 0 0] 24 w.heap.size rfl).1;have HT:=zG T0;have hz:w.heap.size+1≤(w.alloc (.cells #[.slice none 0 0] 24)).heap.size:=(by simp);obtain⟨-,h1,h2,h3⟩:=HB.fw;replace HB:=zG (HB.pool (by decide) T0);clear T0;by_cases hbig:5000<l.length
 ·have HE:=zG (prog_big hbig);have i1:(5000:Int)<(l.length:Int):=(by omega);go_enter Tryz.func25,Tryz.ntmps25
  go_upto_region 1 with fail;generalize (w.alloc (.cells #[.slice none 0 0] 24))=W0 at*;have h_:=HT.rz 1;go_wp2_with fail;clear h_;obtain⟨T',K'⟩:=HT.put 0 0 (.slice none 0 0) rfl;simp only[zB,zA] at T' K';replace⟨HT,HB⟩:=sp1 (And.intro T' K') HB.s;clear T' K';replace hz:=HT.zz hz;generalize W0.setCell ⟨w.heap.size,0,none⟩ (.slice none 0 0)=W1 at*;have h_:=HT.rz 1;refine bodyPost_ret (v:= .tuple #[.agg #[.slice none 0 0],.int .i64 1]) (by simp[results,Tryz.results25,go_sem,h_.1]) rfl ?_;exact DecD.bad HE.out HT.below
 ·have i1:¬(5000:Int)<(l.length:Int):=(by omega);go_enter Tryz.func25,Tryz.ntmps25
  go_upto_region 1 with fail;generalize (w.alloc (.cells #[.slice none 0 0] 24))=W0 at*;go_upto_region 4 with fail;generalize Value.slice A l.length c=v0 at*;replace⟨HT,HB⟩:=sp1 (HT.new' #[v0,.int .i64 0] 111 W0.heap.size) HB.s;replace hz:=HT.zz hz;generalize (W0.alloc (.cells #[v0,.int .i64 0] 111))=W1 at*;have hrd:W0.heap.size<W1.heap.size:=(HT.in_ 0 rfl rfl).2;have h_:=HT.rz 2;go_wp2_with fail;rcases l with _|⟨x,l⟩
  ·have HE:=zG prog_zero;refine(byte_no _ (Fr 0 [.blk W0.heap.size #[v0,.int .i64 0] 111,.blk w.heap.size #[.slice none 0 0] 24]) _ ⟨_,HT.heap 0 rfl,HB.out⟩).mono ?_;rintro en W2 ⟨rfl,ho,v1,hd⟩;clear h_;replace⟨HT,HB⟩:=sp1 (ns0 (HT.only 0 rfl ho hd)) HB.s;replace hz:=Nat.le_trans hz ho.size;clear ho hd;have h_:=HT.rz 2;go_wp2_with fail;refine(byte_bad _ _ 5 _ (HT.heap 0 rfl) rfl).mono ?_;rintro e w' ⟨rfl,rfl⟩;clear h_;have h_:=HT.rz 2;go_upto_region 8 with fail;replace HT:=sp0 (HT.new' #[.slice none 0 0] 24 W2.heap.size);replace hz:=HT.zz hz;clear h_;generalize (W2.alloc (.cells #[.slice none 0 0] 24))=W5 at*;obtain⟨-,-,r_rd,q_rd,r_res,q_res,-⟩:=HT.rules;have z_rd:W0.heap.size<W5.heap.size:=(HT.in_ 1 rfl rfl).2;have z_res:w.heap.size<W5.heap.size:=(HT.in_ 2 rfl rfl).2;go_wp2_with fail;refine(byte_bad _ _ 5 _ (HT.heap 1 rfl) rfl).mono ?_;rintro e w' ⟨rfl,rfl⟩;go_wp2_with fail;clear r_rd q_rd r_res q_res z_rd z_res;have h_:=HT.rz 3;go_loopw [8] (fun i wr=>i= .int .i64 0∧wr=W5) (fun _ _=>0)
   case atStart=>exact⟨rfl,rfl⟩
   case round=>
    obtain⟨rfl,hwr⟩:=hrel;rw[hwr];go_wp2_with fail;refine av [.still [0,1,2,3,4],.loud 5 [1,2,3,4],.still [6]] (by kernel_rfl) (by kernel_rfl) ?_;refine ps_ ?_;repeat still_step
    refine zH ?_;refine pl_ ?_;go_wp2_with fail;clear h_;obtain⟨T',K'⟩:=HT.put 2 0 (.slice none 0 0) rfl;simp only[zC,zB,zA] at T' K';replace HT:=sp0 (And.intro T' K');clear T' K';replace hz:=HT.zz hz;generalize W5.setCell ⟨w.heap.size,0,none⟩ (.slice none 0 0)=we at*;obtain⟨-,-,r_rd,q_rd,-⟩:=HT.rules;have z_rd:W0.heap.size<we.heap.size:=(HT.in_ 1 rfl rfl).2;refine ag_ ?_;refine ps_ ?_;repeat still_step
    refine zH ?_;refine zI ?_;replace HT:=sp0 HT.drew';replace hz:=HT.zz hz;clear r_rd q_rd z_rd;obtain⟨-,-,-,-,r_res,q_res,-⟩:=HT.rules;have z_res:w.heap.size<we.drew.heap.size:=(HT.in_ 2 rfl rfl).2;go_wp2_with fail;refine bodyPost_ret (v:= .tuple #[.agg #[.slice none 0 0],.int .i64 5]) (by simp[results,Tryz.results25,go_sem,r_res]) rfl ?_;exact DecD.bad HE.out HT.below
  ·have hx:=x.toNat_lt;refine(byte_ok _ (Fr 0 [.blk W0.heap.size #[v0,.int .i64 0] 111,.blk w.heap.size #[.slice none 0 0] 24]) (not_fr (i:=0) rfl) x l _ ⟨_,HT.heap 0 rfl,HB.out⟩).mono ?_;rintro en W2 ⟨rfl,ho,v1,hd,hr⟩;clear HB;clear h_;have hfr:=fun b (h:Fr 0 [.blk W0.heap.size #[v0,.int .i64 0] 111,.blk w.heap.size #[.slice none 0 0] 24] b)=>fr_set (cs':=#[v1,.int .i64 0]) HT.out (i:=0) rfl h;replace HT:=sp0 (ns0 (HT.only 0 rfl ho hd));replace hz:=Nat.le_trans hz ho.size;have HB:=zG (hr.keep (by decide) (fun b _ h=>⟨hfr b h,rfl⟩));replace HB:Hid (aj bE W2 (Fr 0 [.blk W0.heap.size #[v1,.int .i64 0] 111,.blk w.heap.size #[.slice none 0 0] 24]) v1 l):=HB;clear hr hfr;clear ho hd;have h_:=HT.rz 2;go_wp2_with fail;rcases l with _|⟨y,l⟩
   ·have HE:=zG (prog_one (x:=x));refine(byte_no _ (Fr 0 [.blk W0.heap.size #[v1,.int .i64 0] 111,.blk w.heap.size #[.slice none 0 0] 24]) _ ⟨_,HT.heap 0 rfl,HB.out⟩).mono ?_;rintro en W3 ⟨rfl,ho,v2,hd⟩;clear h_;replace⟨HT,HB⟩:=sp1 (ns0 (HT.only 0 rfl ho hd)) HB.s;replace hz:=Nat.le_trans hz ho.size;clear ho hd;have h_:=HT.rz 2;go_upto_region 8 with fail;replace HT:=sp0 (HT.new' #[.slice none 0 0] 24 W3.heap.size);replace hz:=HT.zz hz;clear h_;generalize (W3.alloc (.cells #[.slice none 0 0] 24))=W5 at*;obtain⟨-,-,r_rd,q_rd,r_res,q_res,-⟩:=HT.rules;have z_rd:W0.heap.size<W5.heap.size:=(HT.in_ 1 rfl rfl).2;have z_res:w.heap.size<W5.heap.size:=(HT.in_ 2 rfl rfl).2;go_wp2_with fail;refine(byte_bad _ _ 5 _ (HT.heap 1 rfl) rfl).mono ?_;rintro e w' ⟨rfl,rfl⟩;go_wp2_with fail;clear r_rd q_rd r_res q_res z_rd z_res;have h_:=HT.rz 3;go_loopw [8] (fun i wr=>i= .int .i64 0∧wr=W5) (fun _ _=>0)
    case atStart=>exact⟨rfl,rfl⟩
    case round=>
     obtain⟨rfl,hwr⟩:=hrel;rw[hwr];go_wp2_with fail;refine av [.still [0,1,2,3,4],.loud 5 [1,2,3,4],.still [6]] (by kernel_rfl) (by kernel_rfl) ?_;refine ps_ ?_;repeat still_step
     refine zH ?_;refine pl_ ?_;go_wp2_with fail;clear h_;obtain⟨T',K'⟩:=HT.put 2 0 (.slice none 0 0) rfl;simp only[zC,zB,zA] at T' K';replace HT:=sp0 (And.intro T' K');clear T' K';replace hz:=HT.zz hz;generalize W5.setCell ⟨w.heap.size,0,none⟩ (.slice none 0 0)=we at*;obtain⟨-,-,r_rd,q_rd,-⟩:=HT.rules;have z_rd:W0.heap.size<we.heap.size:=(HT.in_ 1 rfl rfl).2;refine ag_ ?_;refine ps_ ?_;repeat still_step
     refine zH ?_;refine zI ?_;replace HT:=sp0 HT.drew';replace hz:=HT.zz hz;clear r_rd q_rd z_rd;obtain⟨-,-,-,-,r_res,q_res,-⟩:=HT.rules;have z_res:w.heap.size<we.drew.heap.size:=(HT.in_ 2 rfl rfl).2;go_wp2_with fail;refine bodyPost_ret (v:= .tuple #[.agg #[.slice none 0 0],.int .i64 5]) (by simp[results,Tryz.results25,go_sem,r_res]) rfl ?_;exact DecD.bad HE.out HT.below
   ·have hy:=y.toNat_lt;refine(byte_ok _ (Fr 0 [.blk W0.heap.size #[v1,.int .i64 0] 111,.blk w.heap.size #[.slice none 0 0] 24]) (not_fr (i:=0) rfl) y l _ ⟨_,HT.heap 0 rfl,HB.out⟩).mono ?_;rintro en W3 ⟨rfl,ho,v2,hd,hr⟩;clear HB;clear h_;have hfr:=fun b (h:Fr 0 [.blk W0.heap.size #[v1,.int .i64 0] 111,.blk w.heap.size #[.slice none 0 0] 24] b)=>fr_set (cs':=#[v2,.int .i64 0]) HT.out (i:=0) rfl h;replace HT:=sp0 (ns0 (HT.only 0 rfl ho hd));replace hz:=Nat.le_trans hz ho.size;have HB:=zG (hr.keep (by decide) (fun b _ h=>⟨hfr b h,rfl⟩));replace HB:Hid (aj bE W3 (Fr 0 [.blk W0.heap.size #[v2,.int .i64 0] 111,.blk w.heap.size #[.slice none 0 0] 24]) v2 l):=HB;clear hr hfr;clear ho hd;have h_:=HT.rz 2;have f3:∀i,W3.frozen? ⟨W0.heap.size,i,none⟩=false:=h_.2.1;by_cases hxy:(x.toNat:Int)≠116∨(y.toNat:Int)≠119
    ·have HE:=zG (prog_sign (l:=l) hbig hxy);clear f3;have hC:decide ((x.toNat:Int)≠116∨(y.toNat:Int)≠119)=true:=(by simpa using hxy);go_upto_region 5 with fail;go_cut [37] from 25 to 37 (fun s wx=>s= .bool (decide ((x.toNat:Int)≠116∨(y.toNat:Int)≠119))∧wx=W3)
     case first=>
      by_cases h1:(x.toNat:Int)=116
      ·have e1:((x.toNat:Int) !=116)=false:=(by simpa using h1);go_wp2_with fail;go_meet
       exact⟨by simp[h1,bne,decide_not];try rfl,rfl⟩
      ·have e1:((x.toNat:Int) !=116)=true:=(by simpa using h1);go_wp2_with fail;go_meet
       exact⟨by simp[h1],rfl⟩
     case rest=>
     obtain⟨rfl,hwc⟩:=hcut;rw[hwc];clear hwc;rw[hC];clear hC;go_upto_region 7 with fail;clear h_;obtain⟨T',K'⟩:=HT.put 0 1 (.int .i64 4) rfl;simp only[zC,zB,zA] at T' K';replace⟨HT,HB⟩:=sp1 (And.intro T' K') HB.s;clear T' K';replace hz:=HT.zz hz;generalize W3.setCell ⟨W0.heap.size,1,none⟩ (.int .i64 4)=W4 at*;have h_:=HT.rz 2;clear h_;have h_:=HT.rz 2;go_upto_region 8 with fail;replace HT:=sp0 (HT.new' #[.slice none 0 0] 24 W4.heap.size);replace hz:=HT.zz hz;clear h_;generalize (W4.alloc (.cells #[.slice none 0 0] 24))=W5 at*;obtain⟨-,-,r_rd,q_rd,r_res,q_res,-⟩:=HT.rules;have z_rd:W0.heap.size<W5.heap.size:=(HT.in_ 1 rfl rfl).2;have z_res:w.heap.size<W5.heap.size:=(HT.in_ 2 rfl rfl).2;go_wp2_with fail;refine(byte_bad _ _ 4 _ (HT.heap 1 rfl) rfl).mono ?_;rintro e w' ⟨rfl,rfl⟩;go_wp2_with fail;clear r_rd q_rd r_res q_res z_rd z_res;have h_:=HT.rz 3;go_loopw [8] (fun i wr=>i= .int .i64 0∧wr=W5) (fun _ _=>0)
     case atStart=>exact⟨rfl,rfl⟩
     case round=>
      obtain⟨rfl,hwr⟩:=hrel;rw[hwr];go_wp2_with fail;refine av [.still [0,1,2,3,4],.loud 5 [1,2,3,4],.still [6]] (by kernel_rfl) (by kernel_rfl) ?_;refine ps_ ?_;repeat still_step
      refine zH ?_;refine pl_ ?_;go_wp2_with fail;clear h_;obtain⟨T',K'⟩:=HT.put 2 0 (.slice none 0 0) rfl;simp only[zC,zB,zA] at T' K';replace HT:=sp0 (And.intro T' K');clear T' K';replace hz:=HT.zz hz;generalize W5.setCell ⟨w.heap.size,0,none⟩ (.slice none 0 0)=we at*;obtain⟨-,-,r_rd,q_rd,-⟩:=HT.rules;have z_rd:W0.heap.size<we.heap.size:=(HT.in_ 1 rfl rfl).2;refine ag_ ?_;refine ps_ ?_;repeat still_step
      refine zH ?_;refine zI ?_;replace HT:=sp0 HT.drew';replace hz:=HT.zz hz;clear r_rd q_rd z_rd;obtain⟨-,-,-,-,r_res,q_res,-⟩:=HT.rules;have z_res:w.heap.size<we.drew.heap.size:=(HT.in_ 2 rfl rfl).2;go_wp2_with fail;refine bodyPost_ret (v:= .tuple #[.agg #[.slice none 0 0],.int .i64 4]) (by simp[results,Tryz.results25,go_sem,r_res]) rfl ?_;exact DecD.bad HE.out HT.below
    ·obtain⟨rfl,rfl⟩:x=116∧y=119:=sign_is hxy;clear f3 hxy hx hy;go_upto_region 8 with fail;replace⟨HT,HB⟩:=sp1 (HT.new' #[.slice none 0 0] 24 W3.heap.size) HB.s;replace hz:=HT.zz hz;clear h_;generalize (W3.alloc (.cells #[.slice none 0 0] 24))=W5 at*;obtain⟨-,-,r_rd,q_rd,r_res,q_res,-⟩:=HT.rules;have z_rd:W0.heap.size<W5.heap.size:=(HT.in_ 1 rfl rfl).2;have z_res:w.heap.size<W5.heap.size:=(HT.in_ 2 rfl rfl).2;go_wp2_with fail;rcases l with _|⟨n,l⟩
     ·have HE:=zG prog_two;refine(byte_no _ (Fr 0 [.blk W3.heap.size #[.slice none 0 0] 24,.blk W0.heap.size #[v2,.int .i64 0] 111,.blk w.heap.size #[.slice none 0 0] 24]) _ ⟨_,HT.heap 1 rfl,HB.out⟩).mono ?_;rintro en W6 ⟨rfl,ho,v3,hd⟩;clear r_rd q_rd r_res q_res z_rd z_res;replace⟨HT,HB⟩:=sp1 (ns1 (HT.only 1 rfl ho hd)) HB.s;replace hz:=Nat.le_trans hz ho.size;clear ho hd;have h_:=HT.rz 3;go_wp2_with fail;clear h_;have h_:=HT.rz 3;go_loopw [8] (fun i wr=>i= .int .i64 0∧wr=W6) (fun _ _=>0)
      case atStart=>exact⟨rfl,rfl⟩
      case round=>
       obtain⟨rfl,hwr⟩:=hrel;rw[hwr];go_wp2_with fail;refine av [.still [0,1,2,3,4],.loud 5 [1,2,3,4],.still [6]] (by kernel_rfl) (by kernel_rfl) ?_;refine ps_ ?_;repeat still_step
       refine zH ?_;refine pl_ ?_;go_wp2_with fail;clear h_;obtain⟨T',K'⟩:=HT.put 2 0 (.slice none 0 0) rfl;simp only[zC,zB,zA] at T' K';replace HT:=sp0 (And.intro T' K');clear T' K';replace hz:=HT.zz hz;generalize W6.setCell ⟨w.heap.size,0,none⟩ (.slice none 0 0)=we at*;obtain⟨-,-,r_rd,q_rd,-⟩:=HT.rules;have z_rd:W0.heap.size<we.heap.size:=(HT.in_ 1 rfl rfl).2;refine ag_ ?_;refine ps_ ?_;repeat still_step
       refine zH ?_;refine zI ?_;replace HT:=sp0 HT.drew';replace hz:=HT.zz hz;clear r_rd q_rd z_rd;obtain⟨-,-,-,-,r_res,q_res,-⟩:=HT.rules;have z_res:w.heap.size<we.drew.heap.size:=(HT.in_ 2 rfl rfl).2;go_wp2_with fail;refine bodyPost_ret (v:= .tuple #[.agg #[.slice none 0 0],.int .i64 5]) (by simp[results,Tryz.results25,go_sem,r_res]) rfl ?_;exact DecD.bad HE.out HT.below
     ·have hn:=n.toNat_lt;refine(byte_ok _ (Fr 0 [.blk W3.heap.size #[.slice none 0 0] 24,.blk W0.heap.size #[v2,.int .i64 0] 111,.blk w.heap.size #[.slice none 0 0] 24]) (not_fr (i:=1) rfl) n l _ ⟨_,HT.heap 1 rfl,HB.out⟩).mono ?_;rintro en W6 ⟨rfl,ho,v3,hd,hr⟩;clear HB;clear r_rd q_rd r_res q_res z_rd z_res;have hfr:=fun b (h:Fr 0 [.blk W3.heap.size #[.slice none 0 0] 24,.blk W0.heap.size #[v2,.int .i64 0] 111,.blk w.heap.size #[.slice none 0 0] 24] b)=>fr_set (cs':=#[v3,.int .i64 0]) HT.out (i:=1) rfl h;replace HT:=sp0 (ns1 (HT.only 1 rfl ho hd));replace hz:=Nat.le_trans hz ho.size;have HB:=zG (hr.keep (by decide) (fun b _ h=>⟨hfr b h,rfl⟩));replace HB:Hid (aj bE W6 (Fr 0 [.blk W3.heap.size #[.slice none 0 0] 24,.blk W0.heap.size #[v3,.int .i64 0] 111,.blk w.heap.size #[.slice none 0 0] 24]) v3 l):=HB;clear hr hfr;clear ho hd;have h_:=HT.rz 3;go_wp2_with fail;clear h_;have hz5:W6.heap.size≤W6.heap.size:=Nat.le_refl _;replace⟨HT,HB⟩:=sp1 (HT.kg w.heap.size 84 1) HB.s;generalize hl0:l=l0 at*;obtain⟨N,hN⟩:∃N,n.toNat=N:=⟨_,rfl⟩;have hb0:¬5000<(116::119::n::l0).length:=hbig;have Hbig:=zG hb0;clear hbig i1 h1 hb0;have HEnd:Hid (∀r,kindsD N (I8 l0)=r→progD (I8 (116::119::n::l0))=endD r):=zG (by intro r hr;exact prog_kinds Hbig.out (by rw[hN];exact hr));have hN2:N<256:=(by omega);rw[hN];go_loopw [8] (fun i wr=>∃(k:Nat) (vK vr:Value) (er:Int) (css:List (List Value)),(fun R9:List Res=>i= .int .i64 k∧k≤N∧W6.heap.size≤wr.heap.size∧St w.heap.size w wr R9∧((er=0∧∃(l2:List UInt8) (ps:List (List Ins)),aj bE wr (Fr 0 R9) vr l2∧Held pgE wr (Fr w.heap.size R9) css ps∧ps.length=k∧kindsD N (I8 l0)=pre ps (kindsD (N - k) (I8 l2)))∨(er≠0∧kindsD N (I8 l0)= .error er))) [.row w.heap.size 84 1 vK k (cat css),.blk W3.heap.size #[vK] 24,.blk W0.heap.size #[vr,.int .i64 er] 111,.blk w.heap.size #[.slice none 0 0] 24]) (fun i _=>N - (intOf i).toNat)
      case atStart=>exact⟨0,.slice none 0 0,v3,0,[],rfl,Nat.zero_le _,hz5,HT.out,.inl ⟨rfl,l0,[],HB.out,Held.nil,rfl,(pre_nil _).symm⟩⟩
      case round=>
       generalize wr=wq at*;clear HT HB;obtain⟨k,vK,vr,er,css,rfl,hk,hz5,ht,hst⟩:=hrel;have HT:=zG ht;clear ht;obtain⟨Ak,ck,rfl⟩:=bZ (HT.own 0 rfl);rcases hst with⟨rfl,l2,ps,hb,hH,hps,hE⟩|⟨her,hE⟩
       ·have HB:=zG hb;have HH:=zG hH;have HE:=zG hE;clear hb hH hE;by_cases hlt:k<N
        ·have i2:(k:Int)<(N:Int):=(by omega);have h_:=HT.rz 3;go_wp2_with fail;rcases l2 with _|⟨m,l2⟩
         ·have hE1:kindsD N (I8 l0)= .error 5:=(by rw[HE.out,show N - k=(N - k - 1)+1 by omega];rfl);replace HE:=zG hE1;clear hE1;refine(byte_no _ (Fr 0 [.row w.heap.size 84 1 (.slice Ak k ck) k (cat css),.blk W3.heap.size #[.slice Ak k ck] 24,.blk W0.heap.size #[vr,.int .i64 0] 111,.blk w.heap.size #[.slice none 0 0] 24]) _ ⟨_,HT.heap 2 rfl,HB.out⟩).mono ?_;rintro en wb ⟨rfl,ho,v4,hd⟩;clear h_;replace⟨HT,HB,HH⟩:=sp2 (ns2 (HT.only 2 rfl ho hd)) HB.s HH.s;replace hz5:=Nat.le_trans hz5 ho.size;clear ho hd;have h_:=HT.rz 3;go_wp2_with fail;go_loopw [10,11] (fun v i wr=>v= .slice none 0 0∧i= .int .i64 0∧wr=wb) (fun _ _ _=>0)
          case atStart=>exact⟨rfl,rfl,rfl⟩
          case round=>
           obtain⟨rfl,rfl,hwr⟩:=hrel;rw[hwr];clear h_;have h_:=HT.rz 3;go_wp2_with (at_builtin;go_loud (refine aM rfl (.tmp 76) (.tmp 78) _ rfl (e:=84) (size:=1) (bytes:=24) Tryz.underlying22 infoSI rfl (by omega) HT.out 0 rfl rfl [Value.slice none 0 0] 84 rfl rfl (by simp[Value.oneCell']) (by unfold maxLen;omega) (by omega) HT.base ?next))
           case next=>
            intro A9 c9 wg T' K' hs3;clear h_;replace T':St w.heap.size w wg [.row w.heap.size 84 1 (.slice A9 (k+1) c9) (k+1) (cat (css++[[Value.slice none 0 0]])),.blk W3.heap.size #[.slice Ak k ck] 24,.blk W0.heap.size #[v4,.int .i64 5] 111,.blk w.heap.size #[.slice none 0 0] 24]:=T';replace K':au wb [.row w.heap.size 84 1 (.slice Ak k ck) k (cat css),.blk W3.heap.size #[.slice Ak k ck] 24,.blk W0.heap.size #[v4,.int .i64 5] 111,.blk w.heap.size #[.slice none 0 0] 24] wg [.row w.heap.size 84 1 (.slice A9 (k+1) c9) (k+1) (cat (css++[[Value.slice none 0 0]])),.blk W3.heap.size #[.slice Ak k ck] 24,.blk W0.heap.size #[v4,.int .i64 5] 111,.blk w.heap.size #[.slice none 0 0] 24]:=K';replace HT:=zG T';replace HH:=zG (HH.move K');clear T' K';replace hz5:W6.heap.size≤wg.heap.size:=(by omega);have h_:=HT.rz 1;go_wp2_with fail;clear h_;obtain⟨T',K'⟩:=HT.put 1 0 (.slice A9 (k+1) c9) rfl;simp only[zC,zB,zA] at T' K';replace⟨HT,HH⟩:=sp1 (And.intro T' K') HH.s;clear T' K';replace hz5:=HT.zz hz5;generalize wg.setCell ⟨W3.heap.size,0,none⟩ (.slice A9 (k+1) c9)=wh at*;go_roundw
            case rel=>
             refine⟨k+1,.slice A9 (k+1) c9,v4,5,css++[[Value.slice none 0 0]],by go_num,by omega,hz5,HT.out,?_⟩;exact .inr ⟨by decide,HE.out⟩
            case measure=>simp[intOf];omega
         ·have hm:=m.toNat_lt;refine(byte_ok _ (Fr 0 [.row w.heap.size 84 1 (.slice Ak k ck) k (cat css),.blk W3.heap.size #[.slice Ak k ck] 24,.blk W0.heap.size #[vr,.int .i64 0] 111,.blk w.heap.size #[.slice none 0 0] 24]) (not_fr (i:=2) rfl) m l2 _ ⟨_,HT.heap 2 rfl,HB.out⟩).mono ?_;rintro en wb ⟨rfl,ho,v4,hd,hr⟩;clear HB;clear h_;have hfr:=fun b (h:Fr 0 [.row w.heap.size 84 1 (.slice Ak k ck) k (cat css),.blk W3.heap.size #[.slice Ak k ck] 24,.blk W0.heap.size #[vr,.int .i64 0] 111,.blk w.heap.size #[.slice none 0 0] 24] b)=>fr_set (cs':=#[v4,.int .i64 0]) HT.out (i:=2) rfl h;replace⟨HT,HH⟩:=sp1 (ns2 (HT.only 2 rfl ho hd)) HH.s;replace hz5:=Nat.le_trans hz5 ho.size;have HB:=zG (hr.keep (by decide) (fun b _ h=>⟨hfr b h,rfl⟩));replace HB:Hid (aj bE wb (Fr 0 [.row w.heap.size 84 1 (.slice Ak k ck) k (cat css),.blk W3.heap.size #[.slice Ak k ck] 24,.blk W0.heap.size #[v4,.int .i64 0] 111,.blk w.heap.size #[.slice none 0 0] 24]) v4 l2):=HB;clear hr hfr;clear ho hd;have h_:=HT.rz 3;go_wp2_with fail;clear h_;replace⟨HT,HH,HB⟩:=sp2 (HT.kg w.heap.size 83 4) HH.s HB.s;generalize hl3:l2=l3 at*;obtain⟨M,hM⟩:∃M,m.toNat=M:=⟨_,rfl⟩;have hM2:M<256:=(by omega);rw[hM];go_loopw [10,11] (fun v i wr=>∃(j:Nat) (vL vr:Value) (er:Int) (dss:List (List Value)),(fun R9:List Res=>v=vL∧i= .int .i64 j∧j≤M∧W6.heap.size≤wr.heap.size∧St w.heap.size w wr R9∧Held pgE wr (Fr w.heap.size R9) css ps∧((er=0∧∃(l4:List UInt8) (is:List Ins),aj bE wr (Fr 0 R9) vr l4∧Held eQ wr (Fr w.heap.size R9) dss is∧is.length=j∧codeD M (I8 l3)=pre is (codeD (M - j) (I8 l4)))∨(er≠0∧codeD M (I8 l3)= .error er))) [.row w.heap.size 83 4 vL j (cat dss),.row w.heap.size 84 1 (.slice Ak k ck) k (cat css),.blk W3.heap.size #[.slice Ak k ck] 24,.blk W0.heap.size #[vr,.int .i64 er] 111,.blk w.heap.size #[.slice none 0 0] 24]) (fun _ i _=>M - (intOf i).toNat)
          case atStart=>exact⟨0,.slice none 0 0,v4,0,[],rfl,rfl,Nat.zero_le _,hz5,HT.out,HH.out,.inl ⟨rfl,l3,[],HB.out,Held.nil,rfl,(pre_nil _).symm⟩⟩
          case round=>
           generalize wr=wp at*;clear HT HB HH;obtain⟨j,vL,vr,er,dss,rfl,rfl,hj,hz5,ht,hH,hst⟩:=hrel;have HT:=zG ht;have HH:=zG hH;clear ht hH;obtain⟨Aj,cj,rfl⟩:=bZ (HT.own 0 rfl);rcases hst with⟨rfl,l4,is,hb,hD,his,hC⟩|⟨her,hC⟩
           ·have HB:=zG hb;have HD:=zG hD;have HC:=zG hC;clear hb hD hC;by_cases hjl:j<M
            ·have i3:(j:Int)<(M:Int):=(by omega);have h_:=HT.rz 3;go_wp2_with fail;refine(instrR_any _ (Fr 0 [.row w.heap.size 83 4 (.slice Aj j cj) j (cat dss),.row w.heap.size 84 1 (.slice Ak k ck) k (cat css),.blk W3.heap.size #[.slice Ak k ck] 24,.blk W0.heap.size #[vr,.int .i64 0] 111,.blk w.heap.size #[.slice none 0 0] 24]) (not_fr (i:=3) rfl) l4 _ ⟨_,HT.heap 3 rfl,HB.out⟩ (Hu.below HT.below) (not_uses HT.out Hu.out rfl (i:=3) rfl)).mono ?_;rintro en wi ⟨op,a,b,nn,rfl,ho,hst⟩;clear HB;unfold Stands ReadTo at hst;split at hst
             ·rename_i e he
              obtain⟨he0,v5,hd⟩:=hst;have hC1:codeD M (I8 l3)= .error e:=(by rw[HC.out,show M - j=(M - j - 1)+1 by omega,codeD_err he];rfl);replace HC:=zG hC1;clear hC1 he;clear h_;replace⟨HT,HH⟩:=sp1 (ns3 (HT.only 3 rfl ho hd)) HH.s;replace hz5:=Nat.le_trans hz5 ho.size;clear ho hd;have h_:=HT.rz 3;go_wp2_with (at_builtin;go_loud (refine aM rfl (.tmp 70) (.tmp 73) _ rfl (e:=83) (size:=4) (bytes:=32) Tryz.underlying84 infoN rfl (by omega) HT.out 0 rfl rfl [Value.int .i64 op,Value.int .i64 a,Value.int .i64 b,Value.int .i64 nn] 83 rfl rfl (by simp[Value.oneCell']) (by unfold maxLen;omega) (by omega) HT.base ?next))
              case next=>
               intro A8 c8 wk T' K' hs3;clear h_;replace T':St w.heap.size w wk [.row w.heap.size 83 4 (.slice A8 (j+1) c8) (j+1) (cat (dss++[[Value.int .i64 op,Value.int .i64 a,Value.int .i64 b,Value.int .i64 nn]])),.row w.heap.size 84 1 (.slice Ak k ck) k (cat css),.blk W3.heap.size #[.slice Ak k ck] 24,.blk W0.heap.size #[v5,.int .i64 e] 111,.blk w.heap.size #[.slice none 0 0] 24]:=T';replace K':au wi [.row w.heap.size 83 4 (.slice Aj j cj) j (cat dss),.row w.heap.size 84 1 (.slice Ak k ck) k (cat css),.blk W3.heap.size #[.slice Ak k ck] 24,.blk W0.heap.size #[v5,.int .i64 e] 111,.blk w.heap.size #[.slice none 0 0] 24] wk [.row w.heap.size 83 4 (.slice A8 (j+1) c8) (j+1) (cat (dss++[[Value.int .i64 op,Value.int .i64 a,Value.int .i64 b,Value.int .i64 nn]])),.row w.heap.size 84 1 (.slice Ak k ck) k (cat css),.blk W3.heap.size #[.slice Ak k ck] 24,.blk W0.heap.size #[v5,.int .i64 e] 111,.blk w.heap.size #[.slice none 0 0] 24]:=K';replace HT:=zG T';replace HH:=zG (HH.move K');clear T' K';replace hz5:W6.heap.size≤wk.heap.size:=(by omega);go_wp2_with fail;go_roundw
               case rel=>exact⟨j+1,.slice A8 (j+1) c8,v5,e,dss++[[Value.int .i64 op,Value.int .i64 a,Value.int .i64 b,Value.int .i64 nn]],rfl,by go_num,by omega,hz5,HT.out,HH.out,.inr ⟨he0,HC.out⟩⟩
               case measure=>simp[intOf];omega
             ·rename_i i t he
              obtain⟨rfl,l5,rfl,v5,hd,hr⟩:=hst;have hC1:codeD M (I8 l3)=pre (is++[⟨op,a,b,nn⟩]) (codeD (M - (j+1)) (I8 l5)):=(by rw[HC.out,show M - j=(M - (j+1))+1 by omega,codeD_ok he,pre_pre]);replace HC:=zG hC1;clear hC1 he;clear h_;have hfr:=fun b (h:Fr 0 [.row w.heap.size 83 4 (.slice Aj j cj) j (cat dss),.row w.heap.size 84 1 (.slice Ak k ck) k (cat css),.blk W3.heap.size #[.slice Ak k ck] 24,.blk W0.heap.size #[vr,.int .i64 0] 111,.blk w.heap.size #[.slice none 0 0] 24] b)=>fr_set (cs':=#[v5,.int .i64 0]) HT.out (i:=3) rfl h;replace⟨HT,HH,HD⟩:=sp2 (ns3 (HT.only 3 rfl ho hd)) HH.s (mv_ HD.move);replace hz5:=Nat.le_trans hz5 ho.size;have HB:=zG (hr.keep (by decide) (fun b _ h=>⟨hfr b h,rfl⟩));replace HB:Hid (aj bE wi (Fr 0 [.row w.heap.size 83 4 (.slice Aj j cj) j (cat dss),.row w.heap.size 84 1 (.slice Ak k ck) k (cat css),.blk W3.heap.size #[.slice Ak k ck] 24,.blk W0.heap.size #[v5,.int .i64 0] 111,.blk w.heap.size #[.slice none 0 0] 24]) v5 l5):=HB;clear hr hfr;clear ho hd;have h_:=HT.rz 3;go_wp2_with (at_builtin;go_loud (refine aM rfl (.tmp 70) (.tmp 73) _ rfl (e:=83) (size:=4) (bytes:=32) Tryz.underlying84 infoN rfl (by omega) HT.out 0 rfl rfl [Value.int .i64 op,Value.int .i64 a,Value.int .i64 b,Value.int .i64 nn] 83 rfl rfl (by simp[Value.oneCell']) (by unfold maxLen;omega) (by omega) HT.base ?next))
              case next=>
               intro A8 c8 wk T' K' hs3;clear h_;replace T':St w.heap.size w wk [.row w.heap.size 83 4 (.slice A8 (j+1) c8) (j+1) (cat (dss++[[Value.int .i64 op,Value.int .i64 a,Value.int .i64 b,Value.int .i64 nn]])),.row w.heap.size 84 1 (.slice Ak k ck) k (cat css),.blk W3.heap.size #[.slice Ak k ck] 24,.blk W0.heap.size #[v5,.int .i64 0] 111,.blk w.heap.size #[.slice none 0 0] 24]:=T';replace K':au wi [.row w.heap.size 83 4 (.slice Aj j cj) j (cat dss),.row w.heap.size 84 1 (.slice Ak k ck) k (cat css),.blk W3.heap.size #[.slice Ak k ck] 24,.blk W0.heap.size #[v5,.int .i64 0] 111,.blk w.heap.size #[.slice none 0 0] 24] wk [.row w.heap.size 83 4 (.slice A8 (j+1) c8) (j+1) (cat (dss++[[Value.int .i64 op,Value.int .i64 a,Value.int .i64 b,Value.int .i64 nn]])),.row w.heap.size 84 1 (.slice Ak k ck) k (cat css),.blk W3.heap.size #[.slice Ak k ck] 24,.blk W0.heap.size #[v5,.int .i64 0] 111,.blk w.heap.size #[.slice none 0 0] 24]:=K';replace HT:=zG T';replace HH:=zG (HH.move K');replace HD:=zG (HD.move K');replace HB:=zG (HB.move (by decide) K');clear T' K';replace hz5:W6.heap.size≤wk.heap.size:=(by omega);go_wp2_with fail;have hnew:=HD.append (Held.single (E:=eQ) (cs:=[Value.int .i64 op,Value.int .i64 a,Value.int .i64 b,Value.int .i64 nn]) (x:=⟨op,a,b,nn⟩) rfl rfl);go_roundw
               case rel=>exact⟨j+1,.slice A8 (j+1) c8,v5,0,dss++[[Value.int .i64 op,Value.int .i64 a,Value.int .i64 b,Value.int .i64 nn]],rfl,by go_num,by omega,hz5,HT.out,HH.out,.inl ⟨rfl,l5,is++[⟨op,a,b,nn⟩],HB.out,hnew,by simp[his],HC.out⟩⟩
               case measure=>simp[intOf];omega
            ·have i3:¬(j:Int)<(M:Int):=(by omega);have hjM:j=M:=(by omega);have hC1:codeD M (I8 l3)= .ok (is,I8 l4):=(by rw[HC.out,hjM,Nat.sub_self];show Except.ok (is++[],I8 l4)=_;rw[List.append_nil]);have hE1:kindsD N (I8 l0)=pre (ps++[is]) (kindsD (N - (k+1)) (I8 l4)):=(by rw[HE.out,show N - k=(N - (k+1))+1 by omega,show I8 (m::l3)=(M:Int)::I8 l3 by rw[←hM];rfl,kindsD_ok (by rw[Int.toNat_natCast];exact hC1),pre_pre]);replace HE:=zG hE1;clear hE1 hC1 HC hjM;have h_:=HT.rz 3;clear h_;have Hv:=zG (HT.rdOut (E:=eQ) (n:=w.heap.size) 0 rfl rfl his.symm HD.out (by show is.length*32≤_;omega) (Nat.le_refl _) (by decide));clear HD;replace⟨HT,HH,HB⟩:=sp2 (nd0 (HT.drop 0)) HH.s HB.s;replace Hv:Hid (aj eQ wp (Fr w.heap.size [.row w.heap.size 84 1 (.slice Ak k ck) k (cat css),.blk W3.heap.size #[.slice Ak k ck] 24,.blk W0.heap.size #[vr,.int .i64 0] 111,.blk w.heap.size #[.slice none 0 0] 24]) (.slice Aj j cj) is):=Hv;have h_:=HT.rz 3;go_wp2_with (at_builtin;go_loud (refine aM rfl (.tmp 76) (.tmp 78) _ rfl (e:=84) (size:=1) (bytes:=24) Tryz.underlying22 infoSI rfl (by omega) HT.out 0 rfl rfl [Value.slice Aj j cj] 84 rfl rfl (by simp[Value.oneCell']) (by unfold maxLen;omega) (by omega) HT.base ?next))
             case next=>
              intro A9 c9 wg T' K' hs3;clear h_;replace T':St w.heap.size w wg [.row w.heap.size 84 1 (.slice A9 (k+1) c9) (k+1) (cat (css++[[Value.slice Aj j cj]])),.blk W3.heap.size #[.slice Ak k ck] 24,.blk W0.heap.size #[vr,.int .i64 0] 111,.blk w.heap.size #[.slice none 0 0] 24]:=T';replace K':au wp [.row w.heap.size 84 1 (.slice Ak k ck) k (cat css),.blk W3.heap.size #[.slice Ak k ck] 24,.blk W0.heap.size #[vr,.int .i64 0] 111,.blk w.heap.size #[.slice none 0 0] 24] wg [.row w.heap.size 84 1 (.slice A9 (k+1) c9) (k+1) (cat (css++[[Value.slice Aj j cj]])),.blk W3.heap.size #[.slice Ak k ck] 24,.blk W0.heap.size #[vr,.int .i64 0] 111,.blk w.heap.size #[.slice none 0 0] 24]:=K';replace HT:=zG T';replace HH:=zG (HH.move K');replace HB:=zG (HB.move (by decide) K');replace Hv:=zG (Hv.move (by decide) K');clear T' K';replace hz5:W6.heap.size≤wg.heap.size:=(by omega);have h_:=HT.rz 1;go_wp2_with fail;clear h_;obtain⟨T',K'⟩:=HT.put 1 0 (.slice A9 (k+1) c9) rfl;simp only[zC,zB,zA] at T' K';replace⟨HT,HH,HB,Hv⟩:=sp3 (And.intro T' K') HH.s HB.s Hv.s;clear T' K';replace hz5:=HT.zz hz5;generalize wg.setCell ⟨W3.heap.size,0,none⟩ (.slice A9 (k+1) c9)=wh at*;have hnew:=HH.append (Held.single (E:=pgE) (cs:=[Value.slice Aj j cj]) (x:=is) rfl ⟨_,rfl,Hv.out⟩);go_roundw
              case rel=>
               refine⟨k+1,.slice A9 (k+1) c9,vr,0,css++[[Value.slice Aj j cj]],by go_num,by omega,hz5,HT.out,?_⟩;exact .inl ⟨rfl,l4,ps++[is],HB.out,hnew,by simp[hps],HE.out⟩
              case measure=>simp[intOf];omega
           ·have her0:(er==0)=false:=(by simpa using her);have hE1:kindsD N (I8 l0)= .error er:=(by rw[HE.out,show N - k=(N - k - 1)+1 by omega,show I8 (m::l3)=(M:Int)::I8 l3 by rw[←hM];rfl,kindsD_err (by rw[Int.toNat_natCast];exact hC)];rfl);replace HE:=zG hE1;clear hE1 hC;have h_:=HT.rz 3;by_cases hjl:j<M
            ·have i3:(j:Int)<(M:Int):=(by omega);clear h_;replace⟨HT,HH⟩:=sp1 (nd0 (HT.drop 0)) HH.s;have h_:=HT.rz 3;go_wp2_with (at_builtin;go_loud (refine aM rfl (.tmp 76) (.tmp 78) _ rfl (e:=84) (size:=1) (bytes:=24) Tryz.underlying22 infoSI rfl (by omega) HT.out 0 rfl rfl [Value.slice Aj j cj] 84 rfl rfl (by simp[Value.oneCell']) (by unfold maxLen;omega) (by omega) HT.base ?next))
             case next=>
              intro A9 c9 wg T' K' hs3;clear h_;replace T':St w.heap.size w wg [.row w.heap.size 84 1 (.slice A9 (k+1) c9) (k+1) (cat (css++[[Value.slice Aj j cj]])),.blk W3.heap.size #[.slice Ak k ck] 24,.blk W0.heap.size #[vr,.int .i64 er] 111,.blk w.heap.size #[.slice none 0 0] 24]:=T';replace K':au wp [.row w.heap.size 84 1 (.slice Ak k ck) k (cat css),.blk W3.heap.size #[.slice Ak k ck] 24,.blk W0.heap.size #[vr,.int .i64 er] 111,.blk w.heap.size #[.slice none 0 0] 24] wg [.row w.heap.size 84 1 (.slice A9 (k+1) c9) (k+1) (cat (css++[[Value.slice Aj j cj]])),.blk W3.heap.size #[.slice Ak k ck] 24,.blk W0.heap.size #[vr,.int .i64 er] 111,.blk w.heap.size #[.slice none 0 0] 24]:=K';replace HT:=zG T';replace HH:=zG (HH.move K');clear T' K';replace hz5:W6.heap.size≤wg.heap.size:=(by omega);have h_:=HT.rz 1;go_wp2_with fail;clear h_;obtain⟨T',K'⟩:=HT.put 1 0 (.slice A9 (k+1) c9) rfl;simp only[zC,zB,zA] at T' K';replace⟨HT,HH⟩:=sp1 (And.intro T' K') HH.s;clear T' K';replace hz5:=HT.zz hz5;generalize wg.setCell ⟨W3.heap.size,0,none⟩ (.slice A9 (k+1) c9)=wh at*;go_roundw
              case rel=>
               refine⟨k+1,.slice A9 (k+1) c9,vr,er,css++[[Value.slice Aj j cj]],by go_num,by omega,hz5,HT.out,?_⟩;exact .inr ⟨her,HE.out⟩
              case measure=>simp[intOf];omega
            ·have i3:¬(j:Int)<(M:Int):=(by omega);clear h_;replace⟨HT,HH⟩:=sp1 (nd0 (HT.drop 0)) HH.s;have h_:=HT.rz 3;go_wp2_with (at_builtin;go_loud (refine aM rfl (.tmp 76) (.tmp 78) _ rfl (e:=84) (size:=1) (bytes:=24) Tryz.underlying22 infoSI rfl (by omega) HT.out 0 rfl rfl [Value.slice Aj j cj] 84 rfl rfl (by simp[Value.oneCell']) (by unfold maxLen;omega) (by omega) HT.base ?next))
             case next=>
              intro A9 c9 wg T' K' hs3;clear h_;replace T':St w.heap.size w wg [.row w.heap.size 84 1 (.slice A9 (k+1) c9) (k+1) (cat (css++[[Value.slice Aj j cj]])),.blk W3.heap.size #[.slice Ak k ck] 24,.blk W0.heap.size #[vr,.int .i64 er] 111,.blk w.heap.size #[.slice none 0 0] 24]:=T';replace K':au wp [.row w.heap.size 84 1 (.slice Ak k ck) k (cat css),.blk W3.heap.size #[.slice Ak k ck] 24,.blk W0.heap.size #[vr,.int .i64 er] 111,.blk w.heap.size #[.slice none 0 0] 24] wg [.row w.heap.size 84 1 (.slice A9 (k+1) c9) (k+1) (cat (css++[[Value.slice Aj j cj]])),.blk W3.heap.size #[.slice Ak k ck] 24,.blk W0.heap.size #[vr,.int .i64 er] 111,.blk w.heap.size #[.slice none 0 0] 24]:=K';replace HT:=zG T';replace HH:=zG (HH.move K');clear T' K';replace hz5:W6.heap.size≤wg.heap.size:=(by omega);have h_:=HT.rz 1;go_wp2_with fail;clear h_;obtain⟨T',K'⟩:=HT.put 1 0 (.slice A9 (k+1) c9) rfl;simp only[zC,zB,zA] at T' K';replace⟨HT,HH⟩:=sp1 (And.intro T' K') HH.s;clear T' K';replace hz5:=HT.zz hz5;generalize wg.setCell ⟨W3.heap.size,0,none⟩ (.slice A9 (k+1) c9)=wh at*;go_roundw
              case rel=>
               refine⟨k+1,.slice A9 (k+1) c9,vr,er,css++[[Value.slice Aj j cj]],by go_num,by omega,hz5,HT.out,?_⟩;exact .inr ⟨her,HE.out⟩
              case measure=>simp[intOf];omega
        ·have i2:¬(k:Int)<(N:Int):=(by omega);have hkN:k=N:=(by omega);have hE1:kindsD N (I8 l0)= .ok (ps,I8 l2):=(by rw[HE.out,hkN,Nat.sub_self];show Except.ok (ps++[],I8 l2)=_;rw[List.append_nil]);subst hps;have HF:=zG (HEnd.out _ hE1);clear hE1 HE hkN;obtain⟨Ar,cr,rfl⟩:=HB.is_slice;rcases l2 with _|⟨x2,l2⟩
         ·have hHs:ps.length*24≤140737488355328:=(by omega);have h_:=HT.rz 3;obtain⟨f,hf⟩:∃f,bT ps=f:=⟨_,rfl⟩;have G:=zG (jg _ Ak ck ps _ (Hu.below HT.below) (HT.iM (E:=pgE) (n:=w.heap.size) 0 rfl rfl rfl HH.out hHs (Nat.le_refl _) (by decide)));rw[hf] at G;by_cases hf0:f=0
          ·subst hf0;have HE:=zG (HF.trans (endD_ok hf));clear HF;go_wp2_with fail;refine G.mono ?_;rintro en wc ⟨rfl,hb⟩;clear h_;clear HB;replace⟨HT,HH⟩:=sp1 (HT.call hb) HH.s;replace hz5:=Nat.le_trans hz5 hb.size;clear hb;obtain⟨r_p,q_p,-,-,r_res,q_res,-⟩:=HT.rules;have z_p:W3.heap.size<wc.heap.size:=(HT.in_ 1 rfl rfl).2;have z_res:w.heap.size<wc.heap.size:=(HT.in_ 3 rfl rfl).2;go_wp2_with fail;clear r_p q_p r_res q_res z_p z_res;obtain⟨T',K'⟩:=HT.put 3 0 (.slice Ak ps.length ck) rfl;simp only[zC,zB,zA] at T' K';replace⟨HT,HH⟩:=sp1 (And.intro T' K') HH.s;clear T' K';replace hz5:=HT.zz hz5;generalize wc.setCell ⟨w.heap.size,0,none⟩ (.slice Ak ps.length ck)=we at*;obtain⟨-,-,-,-,r_res,q_res,-⟩:=HT.rules;have z_res:w.heap.size<we.heap.size:=(HT.in_ 3 rfl rfl).2;refine bodyPost_ret (v:= .tuple #[.agg #[.slice Ak ps.length ck],.int .i64 0]) (by simp[results,Tryz.results25,go_sem,r_res]) rfl ?_;rw[HE.out];exact⟨Ak,ck,rfl,HT.iM (E:=pgE) (n:=w.heap.size) 0 rfl rfl rfl HH.out hHs (Nat.le_refl _) (by decide),HT.below⟩
          ·have hf1:(f !=0)=true:=(by simpa using hf0);have HE:=zG (HF.trans (endD_bad hf hf0));clear HF;go_wp2_with fail;refine G.mono ?_;rintro en wc ⟨rfl,hb⟩;clear h_;clear HB;replace⟨HT,HH⟩:=sp1 (HT.call hb) HH.s;replace hz5:=Nat.le_trans hz5 hb.size;clear hb;obtain⟨r_p,q_p,-,-,r_res,q_res,-⟩:=HT.rules;have z_p:W3.heap.size<wc.heap.size:=(HT.in_ 1 rfl rfl).2;have z_res:w.heap.size<wc.heap.size:=(HT.in_ 3 rfl rfl).2;go_wp2_with fail;clear r_p q_p r_res q_res z_p z_res;obtain⟨T',K'⟩:=HT.put 3 0 (.slice none 0 0) rfl;simp only[zC,zB,zA] at T' K';replace⟨HT,HH⟩:=sp1 (And.intro T' K') HH.s;clear T' K';replace hz5:=HT.zz hz5;generalize wc.setCell ⟨w.heap.size,0,none⟩ (.slice none 0 0)=we at*;obtain⟨-,-,-,-,r_res,q_res,-⟩:=HT.rules;have z_res:w.heap.size<we.heap.size:=(HT.in_ 3 rfl rfl).2;refine bodyPost_ret (v:= .tuple #[.agg #[.slice none 0 0],.int .i64 f]) (by simp[results,Tryz.results25,go_sem,r_res]) rfl ?_;exact DecD.bad HE.out HT.below
         ·have HE:=zG (HF.trans (endD_more ps x2 l2));have i4:(0:Int)<((x2::l2).length:Int):=(by simp);have h_:=HT.rz 3;go_upto_region 19 with fail;clear h_;obtain⟨T',K'⟩:=HT.put 2 1 (.int .i64 4) rfl;simp only[zC,zB,zA] at T' K';replace⟨HT,HB,HH⟩:=sp2 (And.intro T' K') HB.s HH.s;clear T' K';replace hz5:=HT.zz hz5;generalize wq.setCell ⟨W0.heap.size,1,none⟩ (.int .i64 4)=wd at*;have h_:=HT.rz 3;go_wp2_with fail;refine av [.still [0,1,2,3,4],.loud 5 [1,2,3,4],.still [6]] (by kernel_rfl) (by kernel_rfl) ?_;refine ps_ ?_;repeat still_step
          refine zH ?_;refine pl_ ?_;go_wp2_with fail;clear h_;obtain⟨T',K'⟩:=HT.put 3 0 (.slice none 0 0) rfl;simp only[zC,zB,zA] at T' K';replace⟨HT,HH⟩:=sp1 (And.intro T' K') HH.s;clear T' K';replace hz5:=HT.zz hz5;generalize wd.setCell ⟨w.heap.size,0,none⟩ (.slice none 0 0)=we at*;obtain⟨-,-,r_rd,q_rd,-⟩:=HT.rules;have z_rd:W0.heap.size<we.heap.size:=(HT.in_ 2 rfl rfl).2;refine ag_ ?_;refine ps_ ?_;repeat still_step
          refine zH ?_;refine zI ?_;replace⟨HT,HH⟩:=sp1 HT.drew' HH.s;replace hz5:=HT.zz hz5;clear r_rd q_rd z_rd;obtain⟨-,-,-,-,r_res,q_res,-⟩:=HT.rules;have z_res:w.heap.size<we.drew.heap.size:=(HT.in_ 3 rfl rfl).2;go_wp2_with fail;refine bodyPost_ret (v:= .tuple #[.agg #[.slice none 0 0],.int .i64 4]) (by simp[results,Tryz.results25,go_sem,r_res]) rfl ?_;exact DecD.bad HE.out HT.below
       ·have her0:(er==0)=false:=(by simpa using her);have her1:(er !=0)=true:=(by simpa using her);have HE:=zG (HEnd.out _ hE);clear hE;have h_:=HT.rz 3;by_cases hlt:k<N
        ·have i2:(k:Int)<(N:Int):=(by omega);go_wp2_with fail;refine av [.still [0,1,2,3,4],.loud 5 [1,2,3,4],.still [6]] (by kernel_rfl) (by kernel_rfl) ?_;refine ps_ ?_;repeat still_step
         refine zH ?_;refine pl_ ?_;go_wp2_with fail;clear h_;obtain⟨T',K'⟩:=HT.put 3 0 (.slice none 0 0) rfl;simp only[zC,zB,zA] at T' K';replace HT:=sp0 (And.intro T' K');clear T' K';generalize wq.setCell ⟨w.heap.size,0,none⟩ (.slice none 0 0)=we at*;obtain⟨-,-,r_rd,q_rd,-⟩:=HT.rules;have z_rd:W0.heap.size<we.heap.size:=(HT.in_ 2 rfl rfl).2;refine ag_ ?_;refine ps_ ?_;repeat still_step
         refine zH ?_;refine zI ?_;replace HT:=sp0 HT.drew';clear r_rd q_rd z_rd;obtain⟨-,-,-,-,r_res,q_res,-⟩:=HT.rules;have z_res:w.heap.size<we.drew.heap.size:=(HT.in_ 3 rfl rfl).2;go_wp2_with fail;refine bodyPost_ret (v:= .tuple #[.agg #[.slice none 0 0],.int .i64 er]) (by simp[results,Tryz.results25,go_sem,r_res]) rfl ?_;exact DecD.bad HE.out HT.below
        ·have i2:¬(k:Int)<(N:Int):=(by omega);go_wp2_with fail;refine av [.still [0,1,2,3,4],.loud 5 [1,2,3,4],.still [6]] (by kernel_rfl) (by kernel_rfl) ?_;refine ps_ ?_;repeat still_step
         refine zH ?_;refine pl_ ?_;go_wp2_with fail;clear h_;obtain⟨T',K'⟩:=HT.put 3 0 (.slice none 0 0) rfl;simp only[zC,zB,zA] at T' K';replace HT:=sp0 (And.intro T' K');clear T' K';generalize wq.setCell ⟨w.heap.size,0,none⟩ (.slice none 0 0)=we at*;obtain⟨-,-,r_rd,q_rd,-⟩:=HT.rules;have z_rd:W0.heap.size<we.heap.size:=(HT.in_ 2 rfl rfl).2;refine ag_ ?_;refine ps_ ?_;repeat still_step
         refine zH ?_;refine zI ?_;replace HT:=sp0 HT.drew';clear r_rd q_rd z_rd;obtain⟨-,-,-,-,r_res,q_res,-⟩:=HT.rules;have z_res:w.heap.size<we.drew.heap.size:=(HT.in_ 3 rfl rfl).2;go_wp2_with fail;refine bodyPost_ret (v:= .tuple #[.agg #[.slice none 0 0],.int .i64 er]) (by simp[results,Tryz.results25,go_sem,r_res]) rfl ?_;exact DecD.bad HE.out HT.below
end
section
section
open Go.RowKit
theorem sev_all:∀(n:Nat),AllB (sev n):=fun n=>by
 induction n using Nat.strongRecOn with
 |ind n ih=>
  by_cases h:n<128
  ·rw[sev_lt h];exact fun c hc=>by simp at hc;omega
  ·rw[sev_ge h];intro c hc;rcases List.mem_cons.1 hc with rfl|hc
   ·omega
   ·exact ih (n / 128) (by omega) c hc
theorem insB_all {i:Ins} (h:InsOk i):AllB (insB i):=fun c hc=>by
 have h1:=h.op;have h2:=h.a;have h3:=h.b;unfold insB at hc;rcases List.mem_cons.1 hc with rfl|hc
 ·omega
 ·rcases List.mem_append.1 hc with hc|hc
  ·split at hc
   ·simp at hc;omega
   ·cases hc
  ·split at hc
   ·exact sev_all _ c hc
   ·cases hc
theorem progB_all {ps:List (List Ins)} (h:bT ps=0):AllB (progB ps):=fun c hc=>by
 obtain⟨_,h6,hl⟩:=qV h;unfold progB at hc;rcases List.mem_append.1 hc with hc|hc
 ·simp at hc
  omega
 ·obtain⟨cs,hcs,hc⟩:=List.mem_flatten.1 hc;obtain⟨l,hml,rfl⟩:=List.mem_map.1 hcs;obtain⟨_,h60,hi⟩:=hl l hml;unfold codeB at hc;rcases List.mem_cons.1 hc with rfl|hc
  ·omega
  ·obtain⟨is,his,hc⟩:=List.mem_flatten.1 hc;obtain⟨i,hmi,rfl⟩:=List.mem_map.1 his;exact insB_all (hi i hmi) c hc
def bytes8 (xs:List Int):List UInt8:=xs.map (fun x=>UInt8.ofNat x.toNat)
theorem I8_bytes {xs:List Int} (h:AllB xs):I8 (bytes8 xs)=xs:=by
 unfold I8 bytes8;rw[List.map_map];conv=>rhs;rw[←List.map_id xs]
 refine List.map_congr_left (fun x hx=>?_);have:=h x hx;simp
 omega
theorem U8_bcs (l:List UInt8):U8 (I8 l)=bcs l:=by simp[U8,I8,bcs,Function.comp_def]
theorem sum_le {α:Type} (f:α→List Int) (m:Nat):∀l:List α,(∀x∈l,(f x).length≤m)→((l.map f).flatten).length≤l.length*m
 | [],_=>by simp
 |x::l,h=>by
  have:=sum_le f m l (fun y hy=>h y (by simp[hy]));have:=h x (by simp);simp only[List.map_cons,List.flatten_cons,List.length_append,List.length_cons,Nat.succ_mul];omega
theorem progK_len {l:List Rw} {most:Int} (h:0≤most∧most≤20):(progB (dB l most)).length≤600:=by
 have hf:=programK_ok (l:=l) h.1;obtain⟨_,_,hl⟩:=qV hf;have key:∀c∈dB l most,(codeB c).length≤199:=fun c hc=>by
  obtain⟨b,rfl,hb⟩:=qX h.1 hc;have h1:=sum_le insB 8 (b++[dE]) (fun i hi=>insB_len ((hl _ hc).2.2 i hi).n);have:=hb.few;simp only[codeB,List.length_cons];simp only[List.length_append,List.length_singleton] at h1;omega
 have:=sum_le codeB 199 (dB l most) key;rw[jF] at this;simp only[progB,List.length_append,List.length_cons,List.length_nil];omega
theorem encodeB_any (S:Nat→Prop) (A:Option Addr) (c:Nat) (ps:List (List Ins)) (bs:List UInt8) (w:World) (hf:bT ps=0) (hbs:I8 bs=progB ps) (hl:bs.length≤5000) (hu:dV w) (hr:aj pgE w S (.slice A ps.length c) ps):
  Calls Tryz.prog 24 #[.agg #[.slice A ps.length c]] w fun e w'=>∃B d,e= .returned (.tuple #[.slice B bs.length d,.int .i64 0])∧aj bE w' (fun b=>w.heap.size≤b) (.slice B bs.length d) bs∧Below w.heap.size w w':=by
 refine(encode_any S A c ps w hu hr).mono ?_;rintro e w' ⟨B,d,he,hown,hb⟩;have hx:encL ps=I8 bs:=(by unfold encL;rw[if_pos hf,hbs]);rw[hx,hf] at he;rw[hx,U8_bcs] at hown;rw[I8_len] at he hown;exact⟨B,d,he,own_bs hown (by omega),hb⟩
end
section
open Go.RowKit
end
end
end Go.Proofs.YtmgbhhabdapniaaGreatDoor
