/- The walk of code.Encode. Condition: the table of operators holds what the program's text lays there. The walk of the reader of bytes: a number. No condition beside what is read. The walk of the reader of bytes: an instruction. Condition: the table of operators holds what the program's text lays there. The walk of code.Decode. Condition: the table of operators holds what the program's text lays there. The bytes of a program as bytes; a program written in bytes that are read alone. No condition beside what is read. The walk of treadwheelkeep.codeTells. Condition: the table of operators is as the program's text lays it. -/
import Derived.Test.YtdmocjnjbihloaaDoorDecL
import Derived.Test.YtdmocjnjbihloaaDoorCodeC
import Derived.Test.YtdmocjnjbihloaaDoorCopyP
import Derived.Test.YtdmocjnjbihloaaDoorBytesB
import Derived.Test.YtdmocjnjbihloaaDoorKProg
namespace Go.Proofs.YtdmocjnjbihloaaDoor
section
open Go.RowKit
theorem Held.s {α:Type} {E:El α} {w w':World} {R R':List Res} {css:List (List Value)} {xs:List α} {n:Nat} (h:Held E w (Fr n R) css xs) (k:au w R w' R'):Hid (Held E w' (Fr n R') css xs):=zG (h.move k)
def encL (ps:List (List Ins)):List Int:=if bT ps=0 then progB ps else []
def EncD (w:World) (ps:List (List Ins)) (en:Ending) (w':World):Prop:=
 ∃B d,en= .returned (.tuple #[.slice B (encL ps).length d,.int .i64 (bT ps)])∧w'.ownsRow w.heap.size 5 1 (.slice B (encL ps).length d) (encL ps).length (U8 (encL ps))∧Below w.heap.size w w'
theorem uses_bits {op:Int} (h:0≤op∧op≤19):∃u:Int,usesT[op.toNat]?=some u∧(bits .and .i64 u 3 !=0)=aB op∧(bits .and .i64 u 4 !=0)=nB op:=by
 rcases op_cases (show ¬(op<0∨19<op) by omega) with rfl|rfl|rfl|rfl|rfl|rfl|rfl|rfl|rfl|rfl|rfl|rfl|rfl|rfl|rfl|rfl|rfl|rfl|rfl|rfl<;>exact⟨_,rfl,by decide,by decide⟩
theorem flat_le {α:Type} {f:α→List Int} {m:Nat}:∀{l:List α},(∀x∈l,(f x).length≤m)→(l.map f).flatten.length≤l.length*m
 | [],_=>by simp
 |x::l,h=>by
  have h1:=h x (by simp);have h2:=flat_le (l:=l) (fun y hy=>h y (by simp[hy]));simp only[List.map_cons,List.flatten_cons,List.length_append,List.length_cons];rw[Nat.add_mul];omega
theorem take_flat {α:Type} {f:α→List Int} {l:List α} {k:Nat} {x:α} (h:l[k]?=some x):((l.take (k+1)).map f).flatten=((l.take k).map f).flatten++f x:=by
 rw[List.take_add_one,h];simp
theorem codeB_len {l:List Ins} (h:l.length≤60) (hi:∀i∈l,InsOk i):(codeB l).length≤481:=by
 have:=flat_le (f:=insB) (m:=8) (l:=l) (fun i hi'=>insB_len (hi i hi').n);unfold codeB;simp only[List.length_cons];omega
structure Grow1 (w1 wx:World) (b9:Nat) (cs:Array Value) (v:Value) (ys:List Int):Prop where
 own:wx.ownsRow w1.heap.size 5 1 v ys.length (U8 ys)
 below:Below w1.heap.size w1 wx
 cell:wx.heap[b9]?=some (.cells cs 58 (0,0))
 ne:v.ownBlock≠some b9
theorem Grow1.app {w1 wx w2:World} {b9:Nat} {cs:Array Value} {B B2:Option Addr} {d d2 n:Nat} {ys:List Int} {o:Obj} {zs:List Int} (h:Grow1 w1 wx b9 cs (.slice B ys.length d) ys) (hz:zs.length=n)
  (hown:w2.ownsRow w1.heap.size 5 1 (.slice B2 (ys.length+n) d2) (ys.length+n) (U8 ys++U8 zs)) (hg:(wx.alloc o).grownBy w2 (Value.slice B ys.length d).ownBlock)
  (hat:(Value.slice B2 (ys.length+n) d2).ownBlock=(Value.slice B ys.length d).ownBlock∨(Value.slice B2 (ys.length+n) d2).ownBlock=some (wx.heap.size+1)):Grow1 w1 w2 b9 cs (.slice B2 (ys++zs).length d2) (ys++zs):=by
 have hl:(ys++zs).length=ys.length+n:=(by simp[hz]);have hb9:b9<wx.heap.size:=lK h.cell;have hs:=h.below.size;refine⟨?_,(h.below.alloc hs _).grown hg (by simp;omega) (fun g hg=>(dJ h.own hg).2),(hg.block _ (by simp;omega) h.ne.symm).trans ((Below.heap_alloc _ _ _ hb9).trans h.cell),fun e=>?_⟩
 ·rw[hl];simpa using hown
 ·have hob:(Value.slice B2 (ys++zs).length d2).ownBlock=(Value.slice B2 (ys.length+n) d2).ownBlock:=(by rw[hl]);rw[hob] at e;rcases hat with h'|h'
  ·exact h.ne (h'.symm.trans e)
  ·rw[h'] at e;injection e with e
   omega
theorem infoIn:True:=trivial
set_option maxRecDepth 100000 in
set_option maxHeartbeats 8000000 in
theorem encode_any (S:Nat→Prop) (A:Option Addr) (c:Nat) (ps:List (List Ins)) (w:World) (hu:dV w) (hr:aj (slE eQ (by decide)) w S (.slice A ps.length c) ps):
  Calls Tryd.prog 20 #[.agg #[.slice A ps.length c]] w (EncD w ps):=by
 obtain⟨-,h1,h2,-⟩:=hr.fw;obtain⟨i0,hi0,hz0,hz1,hz2⟩:=info_parts infoU8;have Hr:=zG (hr.keep (S':=fun b=>b<w.heap.size) (by show 0<1;omega) (fun b hb _=>⟨hb,rfl⟩));have Hu:=zG hu;have hB:Below w.heap.size w (w.alloc (.cells #[.slice A ps.length c] 26)):=(Below.refl _ _).alloc (Nat.le_refl _) _;have HL:=zG ((dD.nil (w:=w)).new (cs:=#[.slice A ps.length c]) (t:=26) rfl);have G1:=zG (jg S A c ps _ (hu.below hB) (hr.below (by show 0<1;omega) hB));clear hr hu;unfold EncD;by_cases hp:bT ps=0
 ·obtain⟨n0,n6,hok⟩:=qV hp;have he:encL ps=progB ps:=(by unfold encL;rw[if_pos hp]);rw[he];rw[hp] at G1 ⊢;have Hok:=zG hok;clear he hp hok;go_enter Tryd.func20,Tryd.ntmps20
  go_wp2_with fail;refine G1.mono ?_;rintro e w1 ⟨rfl,hb1⟩;have hB1:=bM hB hb1;have HL1:=zG (HL.after hb1);obtain⟨r1,-,-⟩:=HL1.rules;dsimp only at r1;have i6:(ps.length:Int)<256:=(by omega);go_upto_region 5 with fail;have hown0:(w1.alloc (.cells #[.int .u8 116,.int .u8 119,.int .u8 (ps.length:Int)] 5)).ownsRow w1.heap.size 5 1 (.slice (some ⟨w1.heap.size,0,none⟩) 3 3) 3 (U8 [116,119,(ps.length:Int)]):=own_u8 (cs:=U8 [116,119,(ps.length:Int)]) (heap_alloc_new w1 _) (by simp[maxLen]) (Nat.le_refl _);have hb2:Below w1.heap.size w1 (w1.alloc (.cells #[.int .u8 116,.int .u8 119,.int .u8 (ps.length:Int)] 5)):=(Below.refl _ _).alloc (Nat.le_refl _) _;generalize (w1.alloc (.cells #[.int .u8 116,.int .u8 119,.int .u8 (ps.length:Int)] 5))=W1 at*;have Hown0:=zG hown0;clear hown0;clear r1;obtain⟨r1,-,-⟩:=(HL1.after hb2).rules;dsimp only at r1;go_wp2_with fail;go_loopw [5,24] (fun v i wr=>∃(k:Nat) (ys:List Int) (B:Option Addr) (d:Nat),k≤ps.length∧i= .int .i64 k∧v= .slice B ys.length d∧wr.ownsRow w1.heap.size 5 1 (.slice B ys.length d) ys.length (U8 ys)∧
    Below w1.heap.size w1 wr∧ys= [116,119,(ps.length:Int)]++((ps.take k).map codeB).flatten) (fun _ i _=>ps.length - (intOf i).toNat)
  case atStart=>exact⟨0,[116,119,(ps.length:Int)],some ⟨w1.heap.size,0,none⟩,3,by omega,rfl,rfl,Hown0.out,hb2,by simp⟩
  case round=>
   obtain⟨k,ys,B,d,hk,rfl,rfl,hown,hb,hys⟩:=hrel;generalize wr=wo at*;have hyl:ys.length≤2889:=by
    have:=flat_le (f:=codeB) (m:=481) (l:=ps.take k) (fun l hl=>codeB_len (Hok.out l (List.mem_of_mem_take hl)).2.1 (Hok.out l (List.mem_of_mem_take hl)).2.2);rw[hys];simp only[List.length_append,List.length_cons,List.length_nil];have h6:(ps.take k).length≤6:=(by simp;omega);have:=Nat.mul_le_mul_right 481 h6;omega
   have hB2:=bM hB1 hb;have hs1:=hb.size;have Hown:=zG hown;have Hys:=zG hys;clear hown hys;by_cases hlt:k<ps.length
   ·obtain⟨x,hx⟩:∃x,ps[k]?=some x:=⟨ps[k],zD hlt⟩;obtain⟨x0,x6,hxi⟩:=Hok.out x (zF hx);obtain⟨pb,po,B1,d1,rfl,_,hbs,g0,hl⟩:=(Hr.below (by show 0<1;omega) hB2).at_s hx;obtain⟨-,x1,x2,-⟩:=hl.fw;have Hl:=zG hl;have Hx:=zG hx;have Hxi:=zG hxi;clear hx hl hxi;have i1:(0:Int)≤(k:Int):=(by omega);have i2:(k:Int)<(ps.length:Int):=(by omega);have i3:(x.length:Int)<256:=(by omega);go_wp2_with (at_builtin;go_loud (refine wpList_append_own_at _ rfl (.tmp 28) (.tmp 32) _ rfl w1.heap.size 5 i0 _ 1 1 Tryd.underlying62 hi0 hz0 hz1 hz2 rfl (by omega) _ ys.length (U8 ys) rfl (Hown.alloc _) ⟨wo.heap.size,0,none⟩ 1 1 (U8 [(x.length:Int)]) rfl rfl (World.news_of_block (cs:=#[.int .u8 ((x.length:Int))]) (t:=5) (fr:=(0,0)) (heap_alloc_new wo _)) (U8_one _) (by unfold maxLen;omega) (by omega) (by simp;omega) ?next))
    case next=>
     intro v5 w5 hown5 hg5 _ hat5;obtain⟨A5,c5,rfl⟩:=bZ hown5;have hb5:Below w1.heap.size w1 w5:=(hb.alloc hs1 _).grown hg5 (by simp;omega) (fun g hg=>(dJ Hown.out hg).2);obtain⟨zs5,hz5⟩:∃zs5,zs5=ys++[(x.length:Int)]:=⟨_,rfl⟩;have hzl5:ys.length+1=zs5.length:=(by rw[hz5];simp);rw[hzl5] at hown5 ⊢;have hown5':w5.ownsRow w1.heap.size 5 1 (.slice A5 zs5.length c5) zs5.length (U8 zs5):=by
      rw[show U8 zs5=U8 ys++[.int .u8 (x.length:Int)] by rw[hz5];simp];exact hown5
     have Hown5:=zG hown5';have Hz5:=zG hz5;clear hown5 hown5' hg5 hat5 hz5;go_wp2_with fail;go_loopw [5,36] (fun v i wz=>∃(j:Nat) (zs:List Int) (B:Option Addr) (d:Nat),j≤x.length∧i= .int .i64 j∧v= .slice B zs.length d∧wz.ownsRow w1.heap.size 5 1 (.slice B zs.length d) zs.length (U8 zs)∧
       Below w1.heap.size w1 wz∧zs=zs5++((x.take j).map insB).flatten) (fun _ i _=>x.length - (intOf i).toNat)
     case atStart=>exact⟨0,zs5,A5,c5,by omega,rfl,rfl,Hown5.out,hb5,by simp⟩
     case round=>
      obtain⟨j,zs,B6,d6,hj,rfl,rfl,hown6,hb6,hzs⟩:=hrel;have hz5l:zs5.length≤2890:=(by omega);have hzl:zs.length≤3370:=by
       have:=flat_le (f:=insB) (m:=8) (l:=x.take j) (fun i hi=>insB_len (Hxi.out i (List.mem_of_mem_take hi)).n);rw[hzs];simp only[List.length_append];have h6:(x.take j).length≤60:=(by simp;omega);have:=Nat.mul_le_mul_right 8 h6;omega
      have hB3:=bM hB1 hb6;have hs6:=hb6.size;have Hown6:=zG hown6;have Hzs:=zG hzs;clear hown6 hzs;by_cases hlt2:j<x.length
      ·obtain⟨i,hi⟩:∃i,x[j]?=some i:=⟨x[j],zD hlt2⟩;have hio:=Hxi.out i (zF hi);have hss:=hB1.size;obtain⟨b2,o2,rfl,_,hbs2,c0,c1,c2,c3⟩:=(Hl.keep (w':=wr) (S':=fun _=>True) (by decide) (fun q _ hS=>⟨trivial,(hb6.block q (by have h:q<w.heap.size:=hS;omega)).trans (hb.block q (by have h:q<w.heap.size:=hS;omega)).symm⟩)).at_n hi;obtain⟨op,ia,ib,n⟩:=i;obtain⟨⟨k0,k1⟩,⟨k2,k3⟩,⟨k4,k5⟩,hn⟩:=hio;dsimp only at k0 k1 k2 k3 k4 k5 hn c0 c1 c2 c3;obtain⟨u,hu1,f1,f2⟩:=uses_bits (op:=op) ⟨k0,k1⟩;obtain⟨o,rfl⟩:=Int.eq_ofNat_of_zero_le k0;obtain⟨a,rfl⟩:=Int.eq_ofNat_of_zero_le k2;obtain⟨b,rfl⟩:=Int.eq_ofNat_of_zero_le k4;have hins:insB ⟨(o:Int),(a:Int),(b:Int),n⟩=(o:Int)::((if aB o then [(a:Int)+8*(b:Int)] else [])++(if nB o then sev (zz n) else [])):=rfl;have Hins:=zG hins;have Hi:=zG hi;generalize aB (o:Int)=xa at*;generalize nB (o:Int)=xb at*;have G0:Grow1 w1 (wr.alloc (.cells #[.int .i64 (o:Int),.int .i64 (a:Int),.int .i64 (b:Int),.int .i64 n] 58)) wr.heap.size #[.int .i64 (o:Int),.int .i64 (a:Int),.int .i64 (b:Int),.int .i64 n] (.slice B6 zs.length d6) zs:=
        ⟨Hown6.alloc _,hb6.alloc hs6 _,heap_alloc_new wr _,fun e=>by have:=(dJ Hown6.out e).1;omega⟩
       have hs7:wr.heap.size+1=(wr.alloc (.cells #[.int .i64 (o:Int),.int .i64 (a:Int),.int .i64 (b:Int),.int .i64 n] 58)).heap.size:=(by simp);have q1:(0:Int)≤(j:Int):=(by omega);have q2:(j:Int)<(x.length:Int):=(by omega);have q3:(o:Int)<256:=(by omega);have e0:(o:Int) % 256=(o:Int):=(by omega);clear hins hi;go_upto_region 12 with fail;generalize wr.alloc (.cells #[.int .i64 (o:Int),.int .i64 (a:Int),.int .i64 (b:Int),.int .i64 n] 58)=W2 at*;have hb9:wr.heap.size<W2.heap.size:=(by omega);generalize wr.heap.size=b9 at*;have G0':=zG G0;clear c0 c1 c2 c3 G0;have d0:W2.cell? ⟨b9,0,none⟩=some (.int .i64 (o:Int)):=cell_of_row W2 _ 0 _ _ _ G0'.cell;go_wp2_with (at_builtin;go_loud (refine wpList_append_own_at _ rfl (.tmp 40) (.tmp 44) _ rfl w1.heap.size 5 i0 _ 1 1 Tryd.underlying62 hi0 hz0 hz1 hz2 rfl (by omega) _ zs.length (U8 zs) rfl (G0'.own.alloc _) ⟨W2.heap.size,0,none⟩ 1 1 (U8 [(o:Int)]) rfl rfl (World.news_of_block (cs:=#[.int .u8 ((o:Int))]) (t:=5) (fr:=(0,0)) (heap_alloc_new W2 _)) (U8_one _) (by unfold maxLen;omega) (by omega) (by simp;omega) ?next))
       case next=>
        intro v7 w7 hown7 hg7 _ hat7;obtain⟨A7,c7,rfl⟩:=bZ hown7;have hsb:=G0'.below.size;have G1':=zG (Grow1.app (zs:=[(o:Int)]) G0'.out rfl hown7 hg7 (by simpa using hat7));obtain⟨z1,hz1'⟩:∃z1,z1=zs++[(o:Int)]:=⟨_,rfl⟩;have hzl1:zs.length+1=z1.length:=(by rw[hz1'];simp);rw[←hz1'] at G1';rw[hzl1];have d0:w7.cell? ⟨b9,0,none⟩=some (.int .i64 (o:Int)):=cell_of_row w7 _ 0 _ _ _ G1'.cell;have d1:w7.cell? ⟨b9,1,none⟩=some (.int .i64 (a:Int)):=cell_of_row w7 _ 1 _ _ _ G1'.cell;have d2:w7.cell? ⟨b9,2,none⟩=some (.int .i64 (b:Int)):=cell_of_row w7 _ 2 _ _ _ G1'.cell;have cu:w7.cell? ⟨0,o,none⟩=some (.int .i64 u):=(Hu.below (bM hB1 G1'.below)) o u hu1;have k1':(o:Int)<20:=(by omega);have k0':(0:Int)≤(o:Int):=(by omega);have hb97:b9<w7.heap.size:=lK G1'.cell;have hs71:=G1'.below.size;have Hz1:=zG hz1';clear hown7 hg7 hat7 hz1';go_upto_if 52 with fail
        go_cut [5] from 53 to 62 (fun s wx=>∃(z2:List Int) (B2:Option Addr) (d2:Nat),s= .slice B2 z2.length d2∧z2=z1++(if xa then [(a:Int)+8*(b:Int)] else [])∧Grow1 w1 wx b9 #[.int .i64 (o:Int),.int .i64 (a:Int),.int .i64 (b:Int),.int .i64 n] (.slice B2 z2.length d2) z2)
        case first=>
         cases xa
         ·go_wp2_with fail;go_meet
          exact⟨z1,A7,c7,rfl,by simp,by rw[Hz1.out];have:=G1'.out;rw[Hz1.out] at this;exact this⟩
         ·have g1:=two_regs a b (by omega) (by omega);obtain⟨ab,hab⟩:∃ab,ab=a+8*b:=⟨_,rfl⟩;rw[←hab] at g1;have hab':(a:Int)+8*(b:Int)=(ab:Int):=(by omega);have g2:(ab:Int) % 256=(ab:Int):=(by omega);have g3:(ab:Int)<256:=(by omega);have Hab:=zG hab';clear hab hab';go_wp2_with (at_builtin;go_loud (refine wpList_append_own_at _ rfl (.tmp 53) (.tmp 61) _ rfl w1.heap.size 5 i0 _ 1 1 Tryd.underlying62 hi0 hz0 hz1 hz2 rfl (by omega) _ z1.length (U8 z1) rfl (G1'.own.alloc _) ⟨w7.heap.size,0,none⟩ 1 1 (U8 [(ab:Int)]) rfl rfl (World.news_of_block (cs:=#[.int .u8 ((ab:Int))]) (t:=5) (fr:=(0,0)) (heap_alloc_new w7 _)) (U8_one _) (by unfold maxLen;omega) (by omega) (by simp;omega) ?next))
          case next=>
           intro v8 w8 hown8 hg8 _ hat8;obtain⟨A8,c8,rfl⟩:=bZ hown8;have G2':=zG (Grow1.app (zs:=[(ab:Int)]) (show Grow1 w1 w7 b9 #[.int .i64 (o:Int),.int .i64 (a:Int),.int .i64 (b:Int),.int .i64 n] (.slice A7 z1.length c7) z1 from G1'.out) rfl hown8 hg8 (by simpa using hat8));have hl8:z1.length+1=(z1++[(ab:Int)]).length:=(by simp);rw[hl8];clear hown8 hg8 hat8;go_wp2_with fail;go_meet
           exact⟨z1++[(ab:Int)],A8,c8,by rw[←hl8],by rw[Hab.out];simp,G2'.out⟩
        case rest=>
        obtain⟨z2,B2,dd2,rfl,hz2',hG2⟩:=hcut;have hz2l:z2.length≤3372:=by rw[hz2'];simp only[List.length_append];split<;>simp<;>omega
        have G2':=zG hG2;have Hz2:=zG hz2';have d3:wc.cell? ⟨b9,3,none⟩=some (.int .i64 n):=cell_of_row wc _ 3 _ _ _ G2'.cell;have hb98:b9<wc.heap.size:=lK G2'.cell;have hs8:=G2'.below.size;have Hn:=zG hn;clear hG2 hz2' d0 d1 d2 cu hu1
        cases xb
        ·go_wp2_with fail;go_roundw
         case rel=>
          exact⟨j+1,z2,B2,dd2,by omega,by go_num,rfl,G2'.own,G2'.below,by rw[take_flat Hi.out,Hins.out,Hz2.out,Hz1.out,Hzs.out];simp⟩
         case measure=>simp[intOf];omega
        ·have G3:=zG (number_any w1.heap.size B2 dd2 z2 n Hn.out (by omega) wc G2'.own (by omega));go_wp2_with fail;refine G3.mono ?_;rintro e w9 ⟨B9,d9,rfl,hown9,hg9⟩;obtain⟨z3,hz3⟩:∃z3,z3=z2++sev (zz n):=⟨_,rfl⟩;rw[←hz3] at hown9 hg9 ⊢;have hb9':=G2'.below.trans (hg9.below (base:=w1.heap.size) (by omega) (fun g hg=>(dJ G2'.own hg).2));have Hown9:=zG hown9;have Hz3:=zG hz3;clear hown9 hg9 hz3;go_wp2_with fail;go_roundw
         case rel=>
          exact⟨j+1,z3,B9,d9,by omega,by go_num,rfl,Hown9.out,hb9',by rw[take_flat Hi.out,Hins.out,Hz3.out,Hz2.out,Hz1.out,Hzs.out];simp⟩
         case measure=>simp[intOf];omega
      ·have i4:¬(j:Int)<(x.length:Int):=(by omega);have hjj:x.take j=x:=List.take_of_length_le (by omega);have hz':=Hzs.out;rw[hjj] at hz';have hcode:zs=ys++codeB x:=(by rw[hz',Hz5.out];unfold codeB;simp);have Hcode:=zG hcode;clear hz' hjj hcode;go_wp2_with fail;go_roundw
       case rel=>exact⟨k+1,zs,B6,d6,by omega,by go_num,rfl,Hown6.out,hb6,by rw[Hcode.out,take_flat Hx.out,Hys.out];simp⟩
       case measure=>simp[intOf];omega
   ·have i2:¬(k:Int)<(ps.length:Int):=(by omega);have hkk:ps.take k=ps:=List.take_of_length_le (by omega);have hys':=Hys.out;rw[hkk] at hys';have hpb:progB ps=ys:=(by rw[hys'];rfl);have Hpb:=zG hpb;clear hpb hys' hkk;go_wp2_with fail;refine bodyPost_ret (v:= .tuple #[.slice B ys.length d,.int .i64 0]) (by simp[results,Tryd.results20,go_sem]) rfl ⟨B,d,by rw[Hpb.out],by rw[Hpb.out];exact fH Hown.out (by have:=hB1.size;omega) (fun _ _=>rfl),hB2⟩
 ·have he:encL ps= []:=(by unfold encL;rw[if_neg hp]);rw[he];have hne:(bT ps !=0)=true:=(by simpa using hp);generalize bT ps=r at*;go_enter Tryd.func20,Tryd.ntmps20
  go_wp2_with fail;refine G1.mono ?_;rintro e w1 ⟨rfl,hb1⟩;have hB1:=bM hB hb1;go_wp2_with fail;refine bodyPost_ret (v:= .tuple #[.slice none 0 0,.int .i64 r]) (by simp[results,Tryd.results20,go_sem]) rfl ⟨none,0,rfl,⟨rfl,.inl ⟨rfl,rfl⟩⟩,hB1⟩
end
section
open Go.RowKit
def ReadTo {α:Type} (bad:Int→Prop) (good:List UInt8→Prop) (r:Except Int (α×List Int)) (P:α→Prop):Prop:=
 match r with
 | .error e=>e≠0∧bad e
 | .ok (a,t)=>P a∧∃l,t=I8 l∧good l
theorem bits_and_one (n:Nat) (h:n<4611686018427387904):bits .and .i64 (n:Int) 1=((n % 2:Nat):Int):=by
 have:=bits_and_i64_nat n 1 h (by omega);rw[show n&&& 1=n % 2 from Nat.and_two_pow_sub_one_eq_mod n 1] at this;exact this
theorem or_shifted (m x j:Nat) (hm:m<2 ^ j) (hx:x<128) (hj:j≤42):bits .or .i64 (m:Int) (((x*2 ^ j:Nat):Int))=((m+x*2 ^ j:Nat):Int):=by
 have h1:2 ^ j≤2 ^ 42:=Nat.pow_le_pow_right (by omega) hj;have h2:x*2 ^ j≤127*2 ^ 42:=Nat.mul_le_mul (by omega) h1;have:=bits_or_i64_nat m (x*2 ^ j) (by omega) (by omega);rw[this,Nat.or_comm,Nat.mul_comm x,←Nat.two_pow_add_eq_or_of_lt hm x,Nat.add_comm]
theorem num_bad {x:UInt8} {l:List UInt8} {k:Nat} {m:Int} (h:k=6∨(0<k∧x.toNat=0)):numF (I8 (x::l)) k m= .error 4:=by
 rw[I8,List.map_cons,numF,if_pos (by omega)]
theorem num_last {x:UInt8} {l:List UInt8} {k:Nat} {m:Int} (h:¬(k=6∨(0<k∧x.toNat=0))) (hx:x.toNat<128):numF (I8 (x::l)) k m= .ok (m+((x.toNat % 128:Nat):Int)*128 ^ k,I8 l):=by
 rw[I8,List.map_cons,numF,if_neg (by omega),if_pos (by omega)];rfl
theorem num_on {x:UInt8} {l:List UInt8} {k:Nat} {m:Int} (h:¬(k=6∨(0<k∧x.toNat=0))) (hx:¬x.toNat<128):numF (I8 (x::l)) k m=numF (I8 l) (k+1) (m+((x.toNat % 128:Nat):Int)*128 ^ k):=by
 rw[I8,List.map_cons,numF,if_neg (by omega),if_neg (by omega)];rfl
theorem pow_seven (k:Nat):(128:Nat) ^ k=2 ^ (7*k):=by rw[Nat.pow_mul]
theorem grown128 {m y k:Nat} (hm:m<128 ^ k) (hy:y<128):m+y*128 ^ k<128 ^ (k+1):=by
 have:(y+1)*128 ^ k≤128*128 ^ k:=Nat.mul_le_mul_right _ (by omega);rw[Nat.add_mul] at this;rw[Nat.pow_succ];omega
theorem pow_le7 {k:Nat} (h:k≤7):(128:Nat) ^ k≤562949953421312:=Nat.le_trans (Nat.pow_le_pow_right (by omega) h) (by decide)
theorem unzz_odd {m:Nat} (h:m % 2=1):unzz (m:Int)= -(((m+1) / 2:Nat):Int):=by
 unfold unzz;rw[if_pos (by omega)];omega
theorem unzz_even {m:Nat} (h:¬m % 2=1):unzz (m:Int)=((m / 2:Nat):Int):=by
 unfold unzz;rw[if_neg (by omega)];omega
end
section
open Go.RowKit
theorem low_three (k:Nat) (h:k<4611686018427387904):bits .and .i64 (k:Int) 7=((k % 8:Nat):Int):=by
 have:=bits_and_i64_nat k 7 h (by omega);rw[show k&&& 7=k % 8 from Nat.and_two_pow_sub_one_eq_mod k 3] at this;exact this
def W4 (w:World) (b:Nat) (u0 u1 u2 u3:Value):World:=(((w.setCell ⟨b,0,none⟩ u0).setCell ⟨b,1,none⟩ u1).setCell ⟨b,2,none⟩ u2).setCell ⟨b,3,none⟩ u3
theorem W4.blk {w:World} {b:Nat} {x0 x1 x2 x3 u0 u1 u2 u3:Value} {t:TypeId} (h:w.heap[b]?=some (.cells #[x0,x1,x2,x3] t (0,0))):(W4 w b u0 u1 u2 u3).heap[b]?=some (.cells #[u0,u1,u2,u3] t (0,0)):=by
 unfold W4;exact jK (jK (jK (jK h _) _) _) _
theorem W4.other {w:World} {b b':Nat} {u0 u1 u2 u3:Value} (h:b'≠b):(W4 w b u0 u1 u2 u3).heap[b']?=w.heap[b']?:=by
 unfold W4;exact(Below.heap_setCell _ _ _ _ h).trans ((Below.heap_setCell _ _ _ _ h).trans ((Below.heap_setCell _ _ _ _ h).trans (Below.heap_setCell _ _ _ _ h)))
theorem Only.setNew {g:Nat} {w w':World} (h:Only g w w') (b k:Nat) (u:Value) (hb:w.heap.size≤b):Only g w (w'.setCell ⟨b,k,none⟩ u):=
 ⟨h.os,h.tape,h.output,by simpa using h.size,fun b' hb' hne=>(Below.heap_setCell _ _ _ _ (show b'≠b by omega)).trans (h.block b' hb' hne)⟩
theorem Only.W4 {g:Nat} {w w':World} (h:Only g w w') (b:Nat) (u0 u1 u2 u3:Value) (hb:w.heap.size≤b):Only g w (Go.Proofs.YtdmocjnjbihloaaDoor.W4 w' b u0 u1 u2 u3):=
 (((h.setNew b 0 u0 hb).setNew b 1 u1 hb).setNew b 2 u2 hb).setNew b 3 u3 hb
theorem Only.alloc {g:Nat} {w w':World} (h:Only g w w') (o:Obj):Only g w (w'.alloc o):=
 ⟨h.os,h.tape,h.output,by have:=h.size;simp;omega,fun b hb hne=>(Below.heap_alloc _ _ _ (Nat.lt_of_lt_of_le hb h.size)).trans (h.block b hb hne)⟩
end
section
open Go.RowKit
theorem infoSI:(Tryd.prog.info? 59).map (fun i=>(i.zero,i.size,i.bytes))=some (some (.slice none 0 0),1,24):=by kernel_rfl
theorem fr_set {B n i g:Nat} {w0 w:World} {R:List Res} {cs cs':Array Value} {t:TypeId} (_h:St B w0 w R) (hi:R[i]?=some (.blk g cs t)) {b:Nat} (h:Fr n R b):Fr n (R.set i (.blk g cs' t)) b:=
 ⟨h.1,fun r hr hf=>by
  rcases List.mem_or_eq_of_mem_set hr with h'|rfl
  ·exact h.2 r h' hf
  ·exact h.2 _ (zF hi) hf⟩
theorem not_fr {n i g:Nat} {R:List Res} {cs:Array Value} {t:TypeId} (hi:R[i]?=some (.blk g cs t)):¬Fr n R g:=fun h=>h.2 _ (zF hi) rfl
theorem not_uses {B i g:Nat} {w0 w:World} {R:List Res} {cs:Array Value} {t:TypeId} (h:St B w0 w R) (hu:dV w0) (hB:B=w0.heap.size) (hi:R[i]?=some (.blk g cs t)):g≠0:=fun e=>by
 have h1:=(h.in_ i hi (b:=g) rfl).1;have:=hu.lt;omega
def DecD (w:World) (r:Except Int (List (List Ins))) (en:Ending) (w':World):Prop:=
 ∃A d,en= .returned (.tuple #[.agg #[.slice A (okL r).length d],.int .i64 (errL r)])∧aj pgE w' (fun b=>w.heap.size≤b) (.slice A (okL r).length d) (okL r)∧Below w.heap.size w w'
theorem DecD.bad {w w':World} {e:Int} {r:Except Int (List (List Ins))} (hr:r= .error e) (hb:Below w.heap.size w w'):DecD w r (.returned (.tuple #[.agg #[.slice none 0 0],.int .i64 e])) w':=by
 rw[hr];exact⟨none,0,rfl,aj.nil,hb⟩
end
section
section
open Go.RowKit
theorem sev_all:∀(n:Nat),AllB (sev n):=fun n=>by
 induction n using Nat.strongRecOn with
 |ind n ih=>
  by_cases h:n<128
  ·rw[sev_lt h];exact fun c hc=>by simp at hc;omega
  ·rw[sev_ge h];intro c hc;rcases List.mem_cons.1 hc with rfl|hc
   ·omega
   ·exact ih (n / 128) (by omega) c hc
theorem insB_all {i:Ins} (h:InsOk i):AllB (insB i):=fun c hc=>by
 have h1:=h.op;have h2:=h.a;have h3:=h.b;unfold insB at hc;rcases List.mem_cons.1 hc with rfl|hc
 ·omega
 ·rcases List.mem_append.1 hc with hc|hc
  ·split at hc
   ·simp at hc;omega
   ·cases hc
  ·split at hc
   ·exact sev_all _ c hc
   ·cases hc
theorem progB_all {ps:List (List Ins)} (h:bT ps=0):AllB (progB ps):=fun c hc=>by
 obtain⟨_,h6,hl⟩:=qV h;unfold progB at hc;rcases List.mem_append.1 hc with hc|hc
 ·simp at hc
  omega
 ·obtain⟨cs,hcs,hc⟩:=List.mem_flatten.1 hc;obtain⟨l,hml,rfl⟩:=List.mem_map.1 hcs;obtain⟨_,h60,hi⟩:=hl l hml;unfold codeB at hc;rcases List.mem_cons.1 hc with rfl|hc
  ·omega
  ·obtain⟨is,his,hc⟩:=List.mem_flatten.1 hc;obtain⟨i,hmi,rfl⟩:=List.mem_map.1 his;exact insB_all (hi i hmi) c hc
def bytes8 (xs:List Int):List UInt8:=xs.map (fun x=>UInt8.ofNat x.toNat)
theorem I8_bytes {xs:List Int} (h:AllB xs):I8 (bytes8 xs)=xs:=by
 unfold I8 bytes8;rw[List.map_map];conv=>rhs;rw[←List.map_id xs]
 refine List.map_congr_left (fun x hx=>?_);have:=h x hx;simp
 omega
theorem U8_bcs (l:List UInt8):U8 (I8 l)=bcs l:=by simp[U8,I8,bcs,Function.comp_def]
theorem sum_le {α:Type} (f:α→List Int) (m:Nat):∀l:List α,(∀x∈l,(f x).length≤m)→((l.map f).flatten).length≤l.length*m
 | [],_=>by simp
 |x::l,h=>by
  have:=sum_le f m l (fun y hy=>h y (by simp[hy]));have:=h x (by simp);simp only[List.map_cons,List.flatten_cons,List.length_append,List.length_cons,Nat.succ_mul];omega
theorem progK_len {l:List Rw} {most:Int} (h:0≤most∧most≤20):(progB (dB l most)).length≤600:=by
 have hf:=programK_ok (l:=l) h.1;obtain⟨_,_,hl⟩:=qV hf;have key:∀c∈dB l most,(codeB c).length≤199:=fun c hc=>by
  obtain⟨b,rfl,hb⟩:=qX h.1 hc;have h1:=sum_le insB 8 (b++[dE]) (fun i hi=>insB_len ((hl _ hc).2.2 i hi).n);have:=hb.few;simp only[codeB,List.length_cons];simp only[List.length_append,List.length_singleton] at h1;omega
 have:=sum_le codeB 199 (dB l most) key;rw[jF] at this;simp only[progB,List.length_append,List.length_cons,List.length_nil];omega
theorem encodeB_any (S:Nat→Prop) (A:Option Addr) (c:Nat) (ps:List (List Ins)) (bs:List UInt8) (w:World) (hf:bT ps=0) (hbs:I8 bs=progB ps) (hl:bs.length≤5000) (hu:dV w) (hr:aj pgE w S (.slice A ps.length c) ps):
  Calls Tryd.prog 20 #[.agg #[.slice A ps.length c]] w fun e w'=>∃B d,e= .returned (.tuple #[.slice B bs.length d,.int .i64 0])∧aj bE w' (fun b=>w.heap.size≤b) (.slice B bs.length d) bs∧Below w.heap.size w w':=by
 refine(encode_any S A c ps w hu hr).mono ?_;rintro e w' ⟨B,d,he,hown,hb⟩;have hx:encL ps=I8 bs:=(by unfold encL;rw[if_pos hf,hbs]);rw[hx,hf] at he;rw[hx,U8_bcs] at hown;rw[I8_len] at he hown;exact⟨B,d,he,own_bs hown (by omega),hb⟩
theorem aj.takeB {w:World} {S:Nat→Prop} {b o n c:Nat} {l:List UInt8} (h:aj bE w S (.slice (some ⟨b,o,none⟩) n c) l) {k:Nat} (_hk:k≤l.length):aj bE w S (.slice (some ⟨b,o,none⟩) (l.take k).length c) (l.take k):=by
 obtain⟨A',c',hv,h1,h2,h3,h4⟩:=h
 cases hv
 have hle:(l.take k).length≤l.length:=(by rw[List.length_take];exact Nat.min_le_right _ _);refine⟨_,_,rfl,by omega,h2,Nat.le_trans (Nat.mul_le_mul_right _ hle) h3,fun hne=>?_⟩;have hne':l≠[]:=fun e=>hne (by rw[e];simp);obtain⟨b',o',hb,hS,hi⟩:=h4 hne'
 cases hb
 refine⟨b,o,rfl,hS,fun i x hx=>hi i x ?_⟩;rw[List.getElem?_take] at hx;split at hx
 ·exact hx
 ·cases hx
end
section
open Go.RowKit
end
end
end Go.Proofs.YtdmocjnjbihloaaDoor
