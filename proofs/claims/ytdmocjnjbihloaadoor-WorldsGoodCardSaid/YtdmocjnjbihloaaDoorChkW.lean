/- slices.Concat of two rows of values that a literal holds. Condition: they are not long. The walk of actor.checkActor. Condition beside what is read: none. The walk of actor.Check. Condition: the table of operators is as the program's text lays it. -/
import Derived.Test.YtdmocjnjbihloaaDoorConcatV
import Derived.Test.YtdmocjnjbihloaaDoorActK
import Derived.Test.YtdmocjnjbihloaaDoorMayW
import Derived.Test.YtdmocjnjbihloaaDoorSortI
import Derived.Test.YtdmocjnjbihloaaDoorVerCheck
import Derived.Deep.CutRange
import Derived.Test.YtdmocjnjbihloaaDoorTypes
namespace Go.Proofs.YtdmocjnjbihloaaDoor
section
open Go.RowKit
theorem pJ (xs ys:List V) (n b:Nat) (hn:xs.length+ys.length=n) (w:World) {v1 v2:Value} {t:TypeId} (hc:w.heap[b]?=some (.cells #[v1,v2] t (0,0))) (h1:aj vE w (fun _=>True) v1 xs) (h2:aj vE w (fun _=>True) v2 ys) (hl:xs.length+ys.length≤1000):
  Calls Tryd.prog 74 #[.slice (some ⟨b,0,none⟩) 2 2] w fun e w'=>∃A c,e= .returned (.slice A n c)∧w'.ownsRow w.heap.size 47 2 (.slice A n c) n (cat (vcs (xs++ys)))∧Below w.heap.size w w':=by
 have hr:aj vvE w (fun _=>True) (.slice (some ⟨b,0,none⟩) 2 2) [xs,ys]:=rT (E:=vvE) (css:=[[v1],[v2]]) hc trivial (Held.cons rfl ⟨_,rfl,h1⟩ (Held.cons rfl ⟨_,rfl,h2⟩ Held.nil)) rfl (by show 2*24≤140737488355328;decide) (by show 2≤maxLen;decide) 2 rfl;refine(sN _ _ 2 [xs,ys] w ⟨by show 2≤10;decide,by simp[sumL];omega⟩ hr).mono ?_;rintro en w' ⟨v,rfl,⟨css,hH,hown,-⟩,hb⟩;have e:[xs,ys].flatten=xs++ys:=(by simp);rw[e] at hH hown;obtain rfl:=oG hH;obtain⟨A,c,rfl⟩:=bZ hown;have hl2:(xs++ys).length=n:=(by rw[List.length_append];exact hn);rw[hl2] at hown ⊢;exact⟨A,c,rfl,hown,hb⟩
end
section
open Go.RowKit
theorem acB_split (ps:List (List Ins)) (n:Nat) (a:Ac):acB ps n a=(!decide (a.kind<0∨(ps.length:Int)≤a.kind∨a.parent< -1∨(n:Int)≤a.parent∨a.fin<0∨8<a.fin∨a.regs.length≠8∨6<a.box.length)&&
  (!decide (hpB a.heap (aC a)=false∨a.pc< -1∨((ps.getD a.kind.toNat []).length:Int)≤a.pc)&&(!(a.box.any (fun v=>v.k !=2))&&(a.fin==0||decide (a.box.length=0∧a.heap.ah.length=0∧a.pc= -1))))):=by
 have hb:a.box.all (fun v=>v.k==2)= !(a.box.any (fun v=>v.k !=2)):=(by rw[List.not_any_eq_all_not];congr 1;funext v;simp[bne]);unfold acB;rw[hb];generalize a.box.any (fun v=>v.k !=2)=x;generalize hpB a.heap (aC a)=y;have hc:decide (a.box.length=0∧a.heap.ah.length=0∧a.pc= -1)=(decide (a.box.length=0)&&decide (a.heap.ah.length=0)&&a.pc== -1):=by
  rw[Bool.eq_iff_iff];simp[and_assoc]
 rw[hc];generalize (a.fin==0||(decide (a.box.length=0)&&decide (a.heap.ah.length=0)&&a.pc== -1))=z;have h1:(decide (0≤a.kind)&&decide (a.kind<ps.length)&&decide (-1≤a.parent)&&decide (a.parent<(n:Int))&&decide (0≤a.fin)&&decide (a.fin≤8)&&decide (a.regs.length=8)&&decide (a.box.length≤6))=
   !decide (a.kind<0∨(ps.length:Int)≤a.kind∨a.parent< -1∨(n:Int)≤a.parent∨a.fin<0∨8<a.fin∨a.regs.length≠8∨6<a.box.length):=by
  rw[Bool.eq_iff_iff];simp only[Bool.and_eq_true,decide_eq_true_eq,Bool.not_eq_true',decide_eq_false_iff_not];omega
 have h2:(y&&decide (-1≤a.pc)&&decide (a.pc<((ps.getD a.kind.toNat []).length:Int)))= !decide (y=false∨a.pc< -1∨((ps.getD a.kind.toNat []).length:Int)≤a.pc):=by
  rw[Bool.eq_iff_iff];simp only[Bool.and_eq_true,decide_eq_true_eq,Bool.not_eq_true',decide_eq_false_iff_not,not_or,Bool.not_eq_false];constructor<;>intro h<;>refine⟨?_,?_⟩<;>simp_all<;>omega
 rw[←h2,h1.symm];simp only[Bool.and_assoc]
theorem at_a8 {w:World} {S:Nat→Prop} {acs:List Ac} {b o c m n:Nat} {x:Ac} (h:aj acE w S (.slice (some ⟨b,o,none⟩) m c) acs) (hx:acs[n]?=some x):
  ∃Bo co Br cr Bb cb,b<w.heap.size∧w.cell? ⟨b,o+n*8,none⟩=some (.int .i64 x.kind)∧w.cell? ⟨b,o+n*8+1,none⟩=some (.int .i64 x.parent)∧
   w.cell? ⟨b,o+n*8+2,none⟩=some (.int .i64 x.heap.most)∧w.cell? ⟨b,o+n*8+3,none⟩=some (.slice Bo x.heap.ah.length co)∧
   w.cell? ⟨b,o+n*8+4,none⟩=some (.slice Br x.regs.length cr)∧w.cell? ⟨b,o+n*8+5,none⟩=some (.int .i64 x.pc)∧
   w.cell? ⟨b,o+n*8+6,none⟩=some (.slice Bb x.box.length cb)∧w.cell? ⟨b,o+n*8+7,none⟩=some (.int .i64 x.fin)∧
   aj obE w S (.slice Bo x.heap.ah.length co) x.heap.ah∧aj vE w S (.slice Br x.regs.length cr) x.regs∧aj vE w S (.slice Bb x.box.length cb) x.box:=by
 obtain⟨b',o',Bo,co,Br,cr,Bb,cb,hA,_,h1,h2,h3,h4,h5,h6,h7,h8,h9,h10,h11,h12⟩:=h.at_a hx;injection hA with hA
 injection hA with e1 e2
 subst e1 e2;exact⟨Bo,co,Br,cr,Bb,cb,h1,h2,h3,h4,h5,h6,h7,h8,h9,h10,h11,h12⟩
theorem ou {w:World} {S:Nat→Prop} {ps:List (List Ins)} {b o c m n:Nat} {x:List Ins} (h:aj pgE w S (.slice (some ⟨b,o,none⟩) m c) ps) (hx:ps[n]?=some x):∃lb lc,w.cell? ⟨b,o+n,none⟩=some (.slice lb x.length lc):=by
 obtain⟨b',o',lb,lc,hA,_,_,h1,_⟩:=h.at_s hx;injection hA with hA
 injection hA with e1 e2
 subst e1 e2;exact⟨lb,lc,h1⟩
def Tells0 (F:Nat) (w:World) (p:V→Bool):Prop:=
 ∀(x:V) (W:World),Below w.heap.size w W→Calls Tryd.prog F #[.agg #[.int .i64 x.k,.int .i64 x.n]] W fun e W'=>e= .returned (.bool (p x))∧Below W.heap.size W W'
theorem Tells0.gives {F:Nat} {w W:World} {p:V→Bool} (hf:Tells0 F w p) (b:Bool) {x:V} (hp:Hid (p x=b)) (hb:Below w.heap.size w W):
  Calls Tryd.prog F #[.agg #[.int .i64 x.k,.int .i64 x.n]] W fun e W'=>e= .returned (.bool b)∧Below W.heap.size W W':=
 (hf x W hb).mono fun _ _ ⟨he,h⟩=>⟨by rw[he,hp.out],h⟩
set_option maxHeartbeats 400000 in
theorem tY (F:Nat) (p:V→Bool) (S:Nat→Prop) (A:Option Addr) (c:Nat) (l:List V) (w:World) (hr:aj vE w S (.slice A l.length c) l) (hf:Tells0 F w p)
  (hen:∀(args:Array Value) (W:World),(callFunc F args).run Tryd.prog W= .ok (.enter F args) W):
  Calls Tryd.prog 93 #[.slice A l.length c,.func (.func F) #[] #[]] w (FoundV p l w):=by
 obtain⟨-,h1,h2,h3⟩:=hr.fw;have Hr:=zG hr;clear hr;go_enter Tryd.func93,Tryd.ntmps93
 go_wp2
 go_loopw [5,8] (fun _ i wr=>∃k:Nat,k≤l.length∧i= .int .i64 k∧(l.take k).any p=false∧Below w.heap.size w wr) (fun _ i _=>l.length - (intOf i).toNat)
 case atStart=>exact⟨0,by omega,rfl,by simp,Below.refl _ _⟩
 case round=>
  obtain⟨k,hk,rfl,hany,hb⟩:=hrel;by_cases hlt:k<l.length
  ·obtain⟨x,hx⟩:∃x,l[k]?=some x:=⟨l[k],zD hlt⟩;obtain⟨b,o,rfl,_,_,g0,g1⟩:=(Hr.below (by decide) hb).at_v hx;have Hany:=zG hany;have Hx:=zG hx;clear hany hx
   cases hp:p x
   all_goals
    have Hp:=zG hp;clear hp;go_wp2_with (refine(hf.gives _ Hp hb).mono ?_;rintro e w' ⟨rfl,hb1⟩)
   ·go_roundw
    case rel=>exact⟨k+1,by omega,by go_num,any_take_succ Hx.out Hany.out Hp.out,hb.trans (hb1.mono hb.size)⟩
    case measure=>simp[intOf];omega
   ·go_ret
    exact⟨_,rfl,by simp[any_at Hx.out Hp.out],hb.trans (hb1.mono hb.size)⟩
  ·have Hany:=zG hany;clear hany;go_wp2
   go_ret
   exact⟨_,rfl,by have:=Hany.out;rw[List.take_of_length_le (by omega)] at this;simp[this],hb⟩
set_option maxHeartbeats 400000 in
theorem qN (F:Nat) (p:V→Bool) (S:Nat→Prop) (A:Option Addr) (c:Nat) (l:List V) (w:World) (hr:aj vE w S (.slice A l.length c) l) (hf:Tells0 F w p)
  (hen:∀(args:Array Value) (W:World),(callFunc F args).run Tryd.prog W= .ok (.enter F args) W):
  Calls Tryd.prog 77 #[.slice A l.length c,.func (.func F) #[] #[]] w fun e w'=>e= .returned (.bool (l.any p))∧Below w.heap.size w w':=by
 have Hr:=zG hr;clear hr;go_enter Tryd.func77,Tryd.ntmps77
 go_wp2_with (refine(tY F p S A c l _ Hr.out hf hen).mono ?_;rintro e w' ⟨r,rfl,hd,hb⟩;have Hd:=zG hd;clear hd)
 go_ret
 exact⟨ret_bool Hd.out,hb⟩
theorem chk1_any (w:World):Tells0 78 w (fun v=>v.k !=2):=by
 intro x W hb;clear hb;go_enter Tryd.func78,Tryd.ntmps78
 go_wp2_with fail;go_ret
 exact⟨rfl,(Below.refl _ _).alloc (Nat.le_refl _) _⟩
set_option maxRecDepth 100000 in
set_option maxHeartbeats 8000000 in
theorem chkActor_any (S T:Nat→Prop) (Ap:Option Addr) (cp:Nat) (ps:List (List Ins)) (A:Option Addr) (c:Nat) (acs:List Ac) (Bp:Option Addr) (m d n:Nat) (a:Ac) (ha:acs[n]?=some a) (w:World) (hr:aj pgE w S (.slice Ap ps.length cp) ps) (hq:aj acE w T (.slice A acs.length c) acs):
  Calls Tryd.prog 53 #[.agg #[.slice Ap ps.length cp],.agg #[.slice A acs.length c,.slice Bp m d],.int .i64 n] w fun e w'=>e= .returned (.bool (acB ps n a))∧Below w.heap.size w w':=by
 obtain⟨kind,par,⟨most,os⟩,regs,pc,box,fin⟩:=a;obtain⟨q1,hq1⟩:∃q,decide (kind<0∨(ps.length:Int)≤kind∨par< -1∨(n:Int)≤par∨fin<0∨8<fin∨regs.length≠8∨6<box.length)=q:=⟨_,rfl⟩;obtain⟨q4,hq4⟩:∃q,decide (box.length=0∧os.length=0∧pc= -1)=q:=⟨_,rfl⟩;obtain⟨q3,hq3⟩:∃q,box.any (fun v=>v.k !=2)=q:=⟨_,rfl⟩;obtain⟨q2,hq2⟩:∃q,decide (hpB ⟨most,os⟩ (regs++box)=false∨pc< -1∨((ps.getD kind.toNat []).length:Int)≤pc)=q:=⟨_,rfl⟩;have hres:acB ps n ⟨kind,par,⟨most,os⟩,regs,pc,box,fin⟩=(!q1&&(!q2&&(!q3&&(fin==0||q4)))):=(by rw[acB_split,←hq1,←hq2,←hq3,←hq4];rfl);rw[hres];clear hres;have HQ2:=zG hq2;have HQ3:=zG hq3;clear hq2 hq3;obtain⟨wb,wo,Bo,co,Br,cr,Bb,cb,rfl,-,-,-,-,-,-,-,-,-,-,ho,hg,hx⟩:=hq.at_a ha;dsimp only at ho hg hx;have HA:=zG ha;have Hr:=zG hr;have Hq:=zG hq;have Ho:=zG ho;have Hg:=zG hg;have Hx:=zG hx;have hn:n<acs.length:=(zE.1 ha).1;have i1:(0:Int)≤(n:Int):=(by omega);have i2:(n:Int)<(acs.length:Int):=(by omega);obtain⟨-,l1,l2,-⟩:=hr.fw;obtain⟨-,l3,l4,l9⟩:=hg.fw;obtain⟨-,l5,l6,l7⟩:=hx.fw;clear ha hr hq ho hg hx;have T0:St w.heap.size w (((w.alloc (.cells #[.slice Ap ps.length cp] 26)).alloc (.cells #[.slice (some ⟨wb,wo,none⟩) acs.length c,.slice Bp m d] 31))) [.blk (w.heap.size+1) #[.slice (some ⟨wb,wo,none⟩) acs.length c,.slice Bp m d] 31,.blk w.heap.size #[.slice Ap ps.length cp] 26]:=((((St.start w (Nat.le_refl _)).new' #[.slice Ap ps.length cp] 26 (w.heap.size) (by simp)).1).new' #[.slice (some ⟨wb,wo,none⟩) acs.length c,.slice Bp m d] 31 (w.heap.size+1) (by simp)).1;have HT:=zG T0;have hz:w.heap.size+1+1≤((w.alloc (.cells #[.slice Ap ps.length cp] 26)).alloc (.cells #[.slice (some ⟨wb,wo,none⟩) acs.length c,.slice Bp m d] 31)).heap.size:=(by simp);clear T0;replace Hr:Hid (aj pgE (((w.alloc (.cells #[.slice Ap ps.length cp] 26)).alloc (.cells #[.slice (some ⟨wb,wo,none⟩) acs.length c,.slice Bp m d] 31))) (Fr 0 [.blk (w.heap.size+1) #[.slice (some ⟨wb,wo,none⟩) acs.length c,.slice Bp m d] 31,.blk w.heap.size #[.slice Ap ps.length cp] 26]) (.slice Ap ps.length cp) ps):=zG (aj.pool (E:=pgE) Hr.out (by show 0<1;omega) HT.out);replace Hq:Hid (aj acE (((w.alloc (.cells #[.slice Ap ps.length cp] 26)).alloc (.cells #[.slice (some ⟨wb,wo,none⟩) acs.length c,.slice Bp m d] 31))) (Fr 0 [.blk (w.heap.size+1) #[.slice (some ⟨wb,wo,none⟩) acs.length c,.slice Bp m d] 31,.blk w.heap.size #[.slice Ap ps.length cp] 26]) (.slice (some ⟨wb,wo,none⟩) acs.length c) acs):=zG (aj.pool (E:=acE) Hq.out (by decide) HT.out);replace Ho:Hid (aj obE (((w.alloc (.cells #[.slice Ap ps.length cp] 26)).alloc (.cells #[.slice (some ⟨wb,wo,none⟩) acs.length c,.slice Bp m d] 31))) (Fr 0 [.blk (w.heap.size+1) #[.slice (some ⟨wb,wo,none⟩) acs.length c,.slice Bp m d] 31,.blk w.heap.size #[.slice Ap ps.length cp] 26]) (.slice Bo os.length co) os):=zG (aj.pool (E:=obE) Ho.out (by decide) HT.out);replace Hg:Hid (aj vE (((w.alloc (.cells #[.slice Ap ps.length cp] 26)).alloc (.cells #[.slice (some ⟨wb,wo,none⟩) acs.length c,.slice Bp m d] 31))) (Fr 0 [.blk (w.heap.size+1) #[.slice (some ⟨wb,wo,none⟩) acs.length c,.slice Bp m d] 31,.blk w.heap.size #[.slice Ap ps.length cp] 26]) (.slice Br regs.length cr) regs):=zG (aj.pool (E:=vE) Hg.out (by decide) HT.out);replace Hx:Hid (aj vE (((w.alloc (.cells #[.slice Ap ps.length cp] 26)).alloc (.cells #[.slice (some ⟨wb,wo,none⟩) acs.length c,.slice Bp m d] 31))) (Fr 0 [.blk (w.heap.size+1) #[.slice (some ⟨wb,wo,none⟩) acs.length c,.slice Bp m d] 31,.blk w.heap.size #[.slice Ap ps.length cp] 26]) (.slice Bb box.length cb) box):=zG (aj.pool (E:=vE) Hx.out (by decide) HT.out);go_enter Tryd.func53,Tryd.ntmps53
 go_upto_region 1 with fail;generalize ((w.alloc (.cells #[.slice Ap ps.length cp] 26)).alloc (.cells #[.slice (some ⟨wb,wo,none⟩) acs.length c,.slice Bp m d] 31))=W1 at*;have h_:=HT.rz 2;obtain⟨Bo,co,Br,cr,Bb,cb,xz,x0,x1,x2,x3,x4,x5,x6,x7,ho,hg,hx⟩:=at_a8 Hq.out HA.out;dsimp only at x0 x1 x2 x3 x4 x5 x6 x7 ho hg hx;replace Ho:=zG ho;replace Hg:=zG hg;replace Hx:=zG hx;clear ho hg hx;replace Hr:Hid (aj pgE W1 (Fr 0 [.blk (w.heap.size+1) #[.slice (some ⟨wb,wo,none⟩) acs.length c,.slice Bp m d] 31,.blk w.heap.size #[.slice Ap ps.length cp] 26]) (.slice Ap ps.length cp) ps):=Hr;replace Hq:Hid (aj acE W1 (Fr 0 [.blk (w.heap.size+1) #[.slice (some ⟨wb,wo,none⟩) acs.length c,.slice Bp m d] 31,.blk w.heap.size #[.slice Ap ps.length cp] 26]) (.slice (some ⟨wb,wo,none⟩) acs.length c) acs):=Hq;replace Ho:Hid (aj obE W1 (Fr 0 [.blk (w.heap.size+1) #[.slice (some ⟨wb,wo,none⟩) acs.length c,.slice Bp m d] 31,.blk w.heap.size #[.slice Ap ps.length cp] 26]) (.slice Bo os.length co) os):=Ho;replace Hg:Hid (aj vE W1 (Fr 0 [.blk (w.heap.size+1) #[.slice (some ⟨wb,wo,none⟩) acs.length c,.slice Bp m d] 31,.blk w.heap.size #[.slice Ap ps.length cp] 26]) (.slice Br regs.length cr) regs):=Hg;replace Hx:Hid (aj vE W1 (Fr 0 [.blk (w.heap.size+1) #[.slice (some ⟨wb,wo,none⟩) acs.length c,.slice Bp m d] 31,.blk w.heap.size #[.slice Ap ps.length cp] 26]) (.slice Bb box.length cb) box):=Hx;go_upto_region 2 with fail;clear x0 x1 x2 x3 x4 x5 x6 x7 xz;replace⟨HT,Hr,Hq,Ho,Hg,Hx⟩:=sp5 (HT.new' #[.int .i64 kind,.int .i64 par,.int .i64 most,.slice Bo os.length co,.slice Br regs.length cr,.int .i64 pc,.slice Bb box.length cb,.int .i64 fin] 39 W1.heap.size) Hr.s Hq.s Ho.s Hg.s Hx.s;replace hz:=HT.zz hz;clear h_;generalize (W1.alloc (.cells #[.int .i64 kind,.int .i64 par,.int .i64 most,.slice Bo os.length co,.slice Br regs.length cr,.int .i64 pc,.slice Bb box.length cb,.int .i64 fin] 39))=W2 at*;obtain⟨r_a,q_a,-,-,r_p,q_p,-⟩:=HT.rules;have z_a:W1.heap.size<W2.heap.size:=(HT.in_ 0 rfl rfl).2;have z_p:w.heap.size<W2.heap.size:=(HT.in_ 2 rfl rfl).2;go_cut [57] from 9 to 57 (fun s9 w9=>s9= .bool q1∧w9=W2)
 case first=>
  by_cases hh0:kind<0
  ·go_wp2_with fail;go_meet
   exact⟨congrArg Value.bool ((decide_eq_true (by omega)).symm.trans hq1),rfl⟩
  ·by_cases hh1:(ps.length:Int)≤kind
   ·go_wp2_with fail;go_meet
    exact⟨congrArg Value.bool ((decide_eq_true (by omega)).symm.trans hq1),rfl⟩
   ·by_cases hh2:par< -1
    ·go_wp2_with fail;go_meet
     exact⟨congrArg Value.bool ((decide_eq_true (by omega)).symm.trans hq1),rfl⟩
    ·by_cases hh3:(n:Int)≤par
     ·go_wp2_with fail;go_meet
      exact⟨congrArg Value.bool ((decide_eq_true (by omega)).symm.trans hq1),rfl⟩
     ·by_cases hh4:fin<0
      ·go_wp2_with fail;go_meet
       exact⟨congrArg Value.bool ((decide_eq_true (by omega)).symm.trans hq1),rfl⟩
      ·by_cases hh5:8<fin
       ·go_wp2_with fail;go_meet
        exact⟨congrArg Value.bool ((decide_eq_true (by omega)).symm.trans hq1),rfl⟩
       ·by_cases hh6:regs.length≠8
        ·have e6:((regs.length:Int) !=8)=true:=(by simp only[bne_iff_ne,ne_eq];omega);go_wp2_with fail;go_meet
         exact⟨congrArg Value.bool ((decide_eq_true (by omega)).symm.trans hq1),rfl⟩
        ·have e6:((regs.length:Int) !=8)=false:=(by simp only[bne_eq_false_iff_eq];omega);by_cases hh7:6<box.length
         ·have e7:(6:Int)<(box.length:Int):=(by omega);go_wp2_with fail;go_meet
          exact⟨congrArg Value.bool ((decide_eq_true (by omega)).symm.trans hq1),rfl⟩
         ·have e7:¬(6:Int)<(box.length:Int):=(by omega);go_wp2_with fail;go_meet
          exact⟨congrArg Value.bool ((decide_eq_false (by omega)).symm.trans hq1),rfl⟩
 case rest=>
 obtain⟨rfl,hwc⟩:=hcut;rw[hwc];clear hwc
 cases q1
 rotate_left;focus
  go_wp2_with fail;go_ret
  exact⟨rfl,HT.below⟩
 have hC:=of_decide_eq_false hq1;obtain⟨k,rfl⟩:=Int.eq_ofNat_of_zero_le (show 0≤kind by omega);have hk:k<ps.length:=(by omega);have k1:(0:Int)≤(k:Int):=(by omega);have k2:(k:Int)<(ps.length:Int):=(by omega);obtain⟨l,hl⟩:∃l,ps[k]?=some l:=⟨_,zD hk⟩;have hkl:ps.getD (k:Int).toNat []=l:=(by rw[Int.toNat_natCast,getD_some hl]);have hq2:=HQ2.out;rw[hkl] at hq2;have h8:regs.length=8:=(by omega);have h6:box.length≤6:=(by omega);have HL:=zG hl;have H8:=zG h8;clear hl hC hq1 h8 hkl;obtain⟨fb,fo,lb,lc,hAp,-,-,-,-⟩:=Hr.at_s HL.out;subst hAp
 cases q2
 rotate_left;focus
  have hbad:=of_decide_eq_true hq2;clear hq2;rcases hbad with hp|hp|hp
  ·have HC:=zG (kR hp);clear hp;have e0:((8:Int) !=0)=true:=rfl;clear r_a q_a r_p q_p z_a z_p;obtain⟨r_a,q_a,-,-,r_p,q_p,-⟩:=HT.rules;have z_a:W1.heap.size<W2.heap.size:=(HT.in_ 0 rfl rfl).2;have z_p:w.heap.size<W2.heap.size:=(HT.in_ 2 rfl rfl).2;go_upto_region 4 with fail;clear r_a q_a r_p q_p z_a z_p;obtain⟨r_a,q_a,-,-,r_p,q_p,-⟩:=HT.rules;have z_a:W1.heap.size<W2.heap.size:=(HT.in_ 0 rfl rfl).2;have z_p:w.heap.size<W2.heap.size:=(HT.in_ 2 rfl rfl).2;refine av [.still [0,1,2,3,4,5],.loud 6 [0,1],.loud 7 [0,1],.loud 8 [],.still [9,10,11,12,13,14,15,16,17,18,19,20,21,22,23,24,25,26]] (by kernel_rfl) (by kernel_rfl) ?_;refine ps_ ?_;repeat still_step
   refine zH ?_;refine pl_ ?_;go_wp2_with fail;replace⟨HT,Hr,Hq,Ho,Hg,Hx⟩:=sp5 (HT.new' #[.slice Br regs.length cr,.slice Bb box.length cb] 37 W2.heap.size) Hr.s Hq.s Ho.s Hg.s Hx.s;replace hz:=HT.zz hz;clear r_a q_a r_p q_p z_a z_p;generalize (W2.alloc (.cells #[.slice Br regs.length cr,.slice Bb box.length cb] 37))=W3 at*;obtain⟨-,-,r_a,q_a,-,-,r_p,q_p,-⟩:=HT.rules;have z_a:W1.heap.size<W3.heap.size:=(HT.in_ 1 rfl rfl).2;have z_p:w.heap.size<W3.heap.size:=(HT.in_ 3 rfl rfl).2;obtain⟨lb,lc,y0⟩:=ou Hr.out HL.out;refine ag_ ?_;refine pl_ ?_;go_wp2_with fail;replace⟨HT,Hr,Hq,Ho,Hg,Hx⟩:=sp5 HT.drew' Hr.s Hq.s Ho.s Hg.s Hx.s;replace hz:=HT.zz hz;refine(pJ regs box (regs.length+box.length) W2.heap.size rfl W3.drew (HT.heap 0 rfl) (Hg.keep (by decide) (fun _ _ _=>⟨trivial,rfl⟩)) (Hx.keep (by decide) (fun _ _ _=>⟨trivial,rfl⟩)) (by rw[H8.out];omega)).mono ?_;rintro en W9 ⟨Ac,cc,rfl,hown,hb⟩;clear r_a q_a r_p q_p z_a z_p;clear y0;replace⟨HT,Hr,Hq,Ho,Hg,Hx⟩:=sp5 (HT.ownRow hb hown (m:=w.heap.size) (by omega)) Hr.s Hq.s Ho.s Hg.s Hx.s;replace hz:=Nat.le_trans hz hb.size;clear hb hown;obtain⟨-,-,r_a,q_a,-,-,r_p,q_p,-⟩:=HT.rules;have z_a:W1.heap.size<W9.heap.size:=(HT.in_ 2 rfl rfl).2;have z_p:w.heap.size<W9.heap.size:=(HT.in_ 4 rfl rfl).2;obtain⟨lb,lc,y0⟩:=ou Hr.out HL.out;go_wp2_with fail;refine ag_ ?_;refine pl_ ?_;go_wp2_with fail;have hcr:=HT.iM (E:=vE) (n:=0) 0 rfl rfl List.length_append.symm (gY (regs++box)) (by rw[List.length_append,H8.out];show(8+box.length)*16≤_;omega) (Nat.zero_le _) (by decide);rw[←List.length_append] at hcr;have G9:=dN most _ _ Bo Ac co cc os (regs++box) _ _ HC.out Ho.out hcr;rw[List.length_append] at G9;refine(G9).mono ?_;rintro en W4 ⟨rfl,hb⟩;clear r_a q_a r_p q_p z_a z_p;replace⟨HT,Hr,Hq,Ho,Hg,Hx⟩:=sp5 (HT.call hb) Hr.s Hq.s Ho.s Hg.s Hx.s;replace hz:=Nat.le_trans hz hb.size;clear hb;clear hcr G9 y0;obtain⟨-,-,r_a,q_a,-,-,r_p,q_p,-⟩:=HT.rules;have z_a:W1.heap.size<W4.heap.size:=(HT.in_ 2 rfl rfl).2;have z_p:w.heap.size<W4.heap.size:=(HT.in_ 4 rfl rfl).2;obtain⟨lb,lc,y0⟩:=ou Hr.out HL.out;go_wp2_with fail;refine⟨trivial,?_⟩;refine ps_ ?_;refine wpStill_step (fun K9 hK9=>?_);go_simp
   iterate 17 (generalize hA9:(Act.mk _ _)=a9;refine hK9 a9 ?_;clear hK9 K9;refine wpStill_step (fun K9 hK9=>?_);subst hA9;go_simp)
   generalize hA9:(Act.mk _ _)=a9;refine hK9 a9 ?_;subst hA9;refine zH ?_;refine zI ?_;go_wp2_with fail;go_ret
   exact⟨rfl,HT.below⟩
  all_goals
   try (have p1:¬pc< -1:=by omega)
   cases hpp:hpB ⟨most,os⟩ (regs++box)
   ·have HC:=zG (kR hpp);clear hpp;clear r_a q_a r_p q_p z_a z_p;obtain⟨r_a,q_a,-,-,r_p,q_p,-⟩:=HT.rules;have z_a:W1.heap.size<W2.heap.size:=(HT.in_ 0 rfl rfl).2;have z_p:w.heap.size<W2.heap.size:=(HT.in_ 2 rfl rfl).2;go_upto_region 4 with fail;clear r_a q_a r_p q_p z_a z_p;obtain⟨r_a,q_a,-,-,r_p,q_p,-⟩:=HT.rules;have z_a:W1.heap.size<W2.heap.size:=(HT.in_ 0 rfl rfl).2;have z_p:w.heap.size<W2.heap.size:=(HT.in_ 2 rfl rfl).2;refine av [.still [0,1,2,3,4,5],.loud 6 [0,1],.loud 7 [0,1],.loud 8 [],.still [9,10,11,12,13,14,15,16,17,18,19,20,21,22,23,24,25,26]] (by kernel_rfl) (by kernel_rfl) ?_;refine ps_ ?_;repeat still_step
    refine zH ?_;refine pl_ ?_;go_wp2_with fail;replace⟨HT,Hr,Hq,Ho,Hg,Hx⟩:=sp5 (HT.new' #[.slice Br regs.length cr,.slice Bb box.length cb] 37 W2.heap.size) Hr.s Hq.s Ho.s Hg.s Hx.s;replace hz:=HT.zz hz;clear r_a q_a r_p q_p z_a z_p;generalize (W2.alloc (.cells #[.slice Br regs.length cr,.slice Bb box.length cb] 37))=W5 at*;obtain⟨-,-,r_a,q_a,-,-,r_p,q_p,-⟩:=HT.rules;have z_a:W1.heap.size<W5.heap.size:=(HT.in_ 1 rfl rfl).2;have z_p:w.heap.size<W5.heap.size:=(HT.in_ 3 rfl rfl).2;obtain⟨lb,lc,y0⟩:=ou Hr.out HL.out;refine ag_ ?_;refine pl_ ?_;go_wp2_with fail;replace⟨HT,Hr,Hq,Ho,Hg,Hx⟩:=sp5 HT.drew' Hr.s Hq.s Ho.s Hg.s Hx.s;replace hz:=HT.zz hz;refine(pJ regs box (regs.length+box.length) W2.heap.size rfl W5.drew (HT.heap 0 rfl) (Hg.keep (by decide) (fun _ _ _=>⟨trivial,rfl⟩)) (Hx.keep (by decide) (fun _ _ _=>⟨trivial,rfl⟩)) (by rw[H8.out];omega)).mono ?_;rintro en W9 ⟨Ac,cc,rfl,hown,hb⟩;clear r_a q_a r_p q_p z_a z_p;clear y0;replace⟨HT,Hr,Hq,Ho,Hg,Hx⟩:=sp5 (HT.ownRow hb hown (m:=w.heap.size) (by omega)) Hr.s Hq.s Ho.s Hg.s Hx.s;replace hz:=Nat.le_trans hz hb.size;clear hb hown;obtain⟨-,-,r_a,q_a,-,-,r_p,q_p,-⟩:=HT.rules;have z_a:W1.heap.size<W9.heap.size:=(HT.in_ 2 rfl rfl).2;have z_p:w.heap.size<W9.heap.size:=(HT.in_ 4 rfl rfl).2;obtain⟨lb,lc,y0⟩:=ou Hr.out HL.out;go_wp2_with fail;refine ag_ ?_;refine pl_ ?_;go_wp2_with fail;have hcr:=HT.iM (E:=vE) (n:=0) 0 rfl rfl List.length_append.symm (gY (regs++box)) (by rw[List.length_append,H8.out];show(8+box.length)*16≤_;omega) (Nat.zero_le _) (by decide);rw[←List.length_append] at hcr;have G9:=dN most _ _ Bo Ac co cc os (regs++box) _ _ HC.out Ho.out hcr;rw[List.length_append] at G9;refine(G9).mono ?_;rintro en W6 ⟨rfl,hb⟩;clear r_a q_a r_p q_p z_a z_p;replace⟨HT,Hr,Hq,Ho,Hg,Hx⟩:=sp5 (HT.call hb) Hr.s Hq.s Ho.s Hg.s Hx.s;replace hz:=Nat.le_trans hz hb.size;clear hb;clear hcr G9 y0;obtain⟨-,-,r_a,q_a,-,-,r_p,q_p,-⟩:=HT.rules;have z_a:W1.heap.size<W6.heap.size:=(HT.in_ 2 rfl rfl).2;have z_p:w.heap.size<W6.heap.size:=(HT.in_ 4 rfl rfl).2;obtain⟨lb,lc,y0⟩:=ou Hr.out HL.out;go_wp2_with fail;refine⟨trivial,?_⟩;refine ps_ ?_;refine wpStill_step (fun K9 hK9=>?_);go_simp
    iterate 17 (generalize hA9:(Act.mk _ _)=a9;refine hK9 a9 ?_;clear hK9 K9;refine wpStill_step (fun K9 hK9=>?_);subst hA9;go_simp)
    generalize hA9:(Act.mk _ _)=a9;refine hK9 a9 ?_;subst hA9;refine zH ?_;refine zI ?_;go_wp2_with fail;go_ret
    exact⟨rfl,HT.below⟩
   ·have HC:=zG (lT hpp);clear hpp;clear r_a q_a r_p q_p z_a z_p;obtain⟨r_a,q_a,-,-,r_p,q_p,-⟩:=HT.rules;have z_a:W1.heap.size<W2.heap.size:=(HT.in_ 0 rfl rfl).2;have z_p:w.heap.size<W2.heap.size:=(HT.in_ 2 rfl rfl).2;go_upto_region 4 with fail;clear r_a q_a r_p q_p z_a z_p;obtain⟨r_a,q_a,-,-,r_p,q_p,-⟩:=HT.rules;have z_a:W1.heap.size<W2.heap.size:=(HT.in_ 0 rfl rfl).2;have z_p:w.heap.size<W2.heap.size:=(HT.in_ 2 rfl rfl).2;refine av [.still [0,1,2,3,4,5],.loud 6 [0,1],.loud 7 [0,1],.loud 8 [],.still [9,10,11,12,13,14,15,16,17,18,19,20,21,22,23,24,25,26]] (by kernel_rfl) (by kernel_rfl) ?_;refine ps_ ?_;repeat still_step
    refine zH ?_;refine pl_ ?_;go_wp2_with fail;replace⟨HT,Hr,Hq,Ho,Hg,Hx⟩:=sp5 (HT.new' #[.slice Br regs.length cr,.slice Bb box.length cb] 37 W2.heap.size) Hr.s Hq.s Ho.s Hg.s Hx.s;replace hz:=HT.zz hz;clear r_a q_a r_p q_p z_a z_p;generalize (W2.alloc (.cells #[.slice Br regs.length cr,.slice Bb box.length cb] 37))=W7 at*;obtain⟨-,-,r_a,q_a,-,-,r_p,q_p,-⟩:=HT.rules;have z_a:W1.heap.size<W7.heap.size:=(HT.in_ 1 rfl rfl).2;have z_p:w.heap.size<W7.heap.size:=(HT.in_ 3 rfl rfl).2;obtain⟨lb,lc,y0⟩:=ou Hr.out HL.out;refine ag_ ?_;refine pl_ ?_;go_wp2_with fail;replace⟨HT,Hr,Hq,Ho,Hg,Hx⟩:=sp5 HT.drew' Hr.s Hq.s Ho.s Hg.s Hx.s;replace hz:=HT.zz hz;refine(pJ regs box (regs.length+box.length) W2.heap.size rfl W7.drew (HT.heap 0 rfl) (Hg.keep (by decide) (fun _ _ _=>⟨trivial,rfl⟩)) (Hx.keep (by decide) (fun _ _ _=>⟨trivial,rfl⟩)) (by rw[H8.out];omega)).mono ?_;rintro en W9 ⟨Ac,cc,rfl,hown,hb⟩;clear r_a q_a r_p q_p z_a z_p;clear y0;replace⟨HT,Hr,Hq,Ho,Hg,Hx⟩:=sp5 (HT.ownRow hb hown (m:=w.heap.size) (by omega)) Hr.s Hq.s Ho.s Hg.s Hx.s;replace hz:=Nat.le_trans hz hb.size;clear hb hown;obtain⟨-,-,r_a,q_a,-,-,r_p,q_p,-⟩:=HT.rules;have z_a:W1.heap.size<W9.heap.size:=(HT.in_ 2 rfl rfl).2;have z_p:w.heap.size<W9.heap.size:=(HT.in_ 4 rfl rfl).2;obtain⟨lb,lc,y0⟩:=ou Hr.out HL.out;go_wp2_with fail;refine ag_ ?_;refine pl_ ?_;go_wp2_with fail;have hcr:=HT.iM (E:=vE) (n:=0) 0 rfl rfl List.length_append.symm (gY (regs++box)) (by rw[List.length_append,H8.out];show(8+box.length)*16≤_;omega) (Nat.zero_le _) (by decide);rw[←List.length_append] at hcr;have G9:=dN most _ _ Bo Ac co cc os (regs++box) _ _ HC.out Ho.out hcr;rw[List.length_append] at G9;refine(G9).mono ?_;rintro en W8 ⟨rfl,hb⟩;clear r_a q_a r_p q_p z_a z_p;replace⟨HT,Hr,Hq,Ho,Hg,Hx⟩:=sp5 (HT.call hb) Hr.s Hq.s Ho.s Hg.s Hx.s;replace hz:=Nat.le_trans hz hb.size;clear hb;clear hcr G9 y0;obtain⟨-,-,r_a,q_a,-,-,r_p,q_p,-⟩:=HT.rules;have z_a:W1.heap.size<W8.heap.size:=(HT.in_ 2 rfl rfl).2;have z_p:w.heap.size<W8.heap.size:=(HT.in_ 4 rfl rfl).2;obtain⟨lb,lc,y0⟩:=ou Hr.out HL.out;go_wp2_with fail;refine⟨trivial,?_⟩;refine ps_ ?_;refine wpStill_step (fun K9 hK9=>?_);go_simp
    iterate 17 (generalize hA9:(Act.mk _ _)=a9;refine hK9 a9 ?_;clear hK9 K9;refine wpStill_step (fun K9 hK9=>?_);subst hA9;go_simp)
    generalize hA9:(Act.mk _ _)=a9;refine hK9 a9 ?_;subst hA9;refine zH ?_;refine zI ?_;go_wp2_with fail;go_ret
    exact⟨rfl,HT.below⟩
 have hok:=of_decide_eq_false hq2;have hpp:hpB ⟨most,os⟩ (regs++box)=true:=(by cases hpp:hpB ⟨most,os⟩ (regs++box);exact absurd (.inl hpp) hok;rfl);have p1:¬pc< -1:=(by omega);have p2:¬(l.length:Int)≤pc:=(by omega);have HC:=zG (lT hpp);clear hq2 hok hpp;clear r_a q_a r_p q_p z_a z_p;obtain⟨r_a,q_a,-,-,r_p,q_p,-⟩:=HT.rules;have z_a:W1.heap.size<W2.heap.size:=(HT.in_ 0 rfl rfl).2;have z_p:w.heap.size<W2.heap.size:=(HT.in_ 2 rfl rfl).2;go_upto_region 4 with fail;clear r_a q_a r_p q_p z_a z_p;obtain⟨r_a,q_a,-,-,r_p,q_p,-⟩:=HT.rules;have z_a:W1.heap.size<W2.heap.size:=(HT.in_ 0 rfl rfl).2;have z_p:w.heap.size<W2.heap.size:=(HT.in_ 2 rfl rfl).2;refine av [.still [0,1,2,3,4,5],.loud 6 [0,1],.loud 7 [0,1],.loud 8 [],.still [9,10,11,12,13,14,15,16,17,18,19,20,21,22,23,24,25,26]] (by kernel_rfl) (by kernel_rfl) ?_;refine ps_ ?_;repeat still_step
 refine zH ?_;refine pl_ ?_;go_wp2_with fail;replace⟨HT,Hr,Hq,Ho,Hg,Hx⟩:=sp5 (HT.new' #[.slice Br regs.length cr,.slice Bb box.length cb] 37 W2.heap.size) Hr.s Hq.s Ho.s Hg.s Hx.s;replace hz:=HT.zz hz;clear r_a q_a r_p q_p z_a z_p;generalize (W2.alloc (.cells #[.slice Br regs.length cr,.slice Bb box.length cb] 37))=W9 at*;obtain⟨-,-,r_a,q_a,-,-,r_p,q_p,-⟩:=HT.rules;have z_a:W1.heap.size<W9.heap.size:=(HT.in_ 1 rfl rfl).2;have z_p:w.heap.size<W9.heap.size:=(HT.in_ 3 rfl rfl).2;obtain⟨lb,lc,y0⟩:=ou Hr.out HL.out;refine ag_ ?_;refine pl_ ?_;go_wp2_with fail;replace⟨HT,Hr,Hq,Ho,Hg,Hx⟩:=sp5 HT.drew' Hr.s Hq.s Ho.s Hg.s Hx.s;replace hz:=HT.zz hz;refine(pJ regs box (regs.length+box.length) W2.heap.size rfl W9.drew (HT.heap 0 rfl) (Hg.keep (by decide) (fun _ _ _=>⟨trivial,rfl⟩)) (Hx.keep (by decide) (fun _ _ _=>⟨trivial,rfl⟩)) (by rw[H8.out];omega)).mono ?_;rintro en W9 ⟨Ac,cc,rfl,hown,hb⟩;clear r_a q_a r_p q_p z_a z_p;clear y0;replace⟨HT,Hr,Hq,Ho,Hg,Hx⟩:=sp5 (HT.ownRow hb hown (m:=w.heap.size) (by omega)) Hr.s Hq.s Ho.s Hg.s Hx.s;replace hz:=Nat.le_trans hz hb.size;clear hb hown;obtain⟨-,-,r_a,q_a,-,-,r_p,q_p,-⟩:=HT.rules;have z_a:W1.heap.size<W9.heap.size:=(HT.in_ 2 rfl rfl).2;have z_p:w.heap.size<W9.heap.size:=(HT.in_ 4 rfl rfl).2;obtain⟨lb,lc,y0⟩:=ou Hr.out HL.out;go_wp2_with fail;refine ag_ ?_;refine pl_ ?_;go_wp2_with fail;have hcr:=HT.iM (E:=vE) (n:=0) 0 rfl rfl List.length_append.symm (gY (regs++box)) (by rw[List.length_append,H8.out];show(8+box.length)*16≤_;omega) (Nat.zero_le _) (by decide);rw[←List.length_append] at hcr;have G9:=dN most _ _ Bo Ac co cc os (regs++box) _ _ HC.out Ho.out hcr;rw[List.length_append] at G9;refine(G9).mono ?_;rintro en W10 ⟨rfl,hb⟩;clear r_a q_a r_p q_p z_a z_p;replace⟨HT,Hr,Hq,Ho,Hg,Hx⟩:=sp5 (HT.call hb) Hr.s Hq.s Ho.s Hg.s Hx.s;replace hz:=Nat.le_trans hz hb.size;clear hb;clear hcr G9 y0;obtain⟨-,-,r_a,q_a,-,-,r_p,q_p,-⟩:=HT.rules;have z_a:W1.heap.size<W10.heap.size:=(HT.in_ 2 rfl rfl).2;have z_p:w.heap.size<W10.heap.size:=(HT.in_ 4 rfl rfl).2;obtain⟨lb,lc,y0⟩:=ou Hr.out HL.out;go_wp2_with fail;refine⟨trivial,?_⟩;refine ps_ ?_;repeat still_step
 refine zH ?_;refine zI ?_;(iterate 2 replace⟨HT,Hr,Hq,Ho,Hg,Hx⟩:=sp5 (nd0 (HT.drop 0)) Hr.s Hq.s Ho.s Hg.s Hx.s);clear y0;clear r_a q_a r_p q_p z_a z_p;obtain⟨r_a,q_a,-,-,r_p,q_p,-⟩:=HT.rules;have z_a:W1.heap.size<W10.heap.size:=(HT.in_ 0 rfl rfl).2;have z_p:w.heap.size<W10.heap.size:=(HT.in_ 2 rfl rfl).2;go_wp2_with fail;have hen:=fun (args:Array Value) (W:World)=>(enters_of Tryd.func78 (by kernel_rfl) rfl:Enters Tryd.prog 78) args W;have G4:=qN _ _ _ _ _ _ _ Hx.out (chk1_any W10) hen;rw[HQ3.out] at G4;clear hen;refine(G4).mono ?_;rintro en W11 ⟨rfl,hb⟩;clear r_a q_a r_p q_p z_a z_p;replace⟨HT,Hr,Hq,Ho,Hg,Hx⟩:=sp5 (HT.call hb) Hr.s Hq.s Ho.s Hg.s Hx.s;replace hz:=Nat.le_trans hz hb.size;clear hb;obtain⟨r_a,q_a,-,-,r_p,q_p,-⟩:=HT.rules;have z_a:W1.heap.size<W11.heap.size:=(HT.in_ 0 rfl rfl).2;have z_p:w.heap.size<W11.heap.size:=(HT.in_ 2 rfl rfl).2;clear G4
 cases q3
 rotate_left;focus
  go_wp2_with fail;go_ret
  exact⟨rfl,HT.below⟩
 go_upto_region 8 with fail;go_cut [8] from 9 to 109 (fun s9 w9=>s9= .bool q4∧w9=W11)
 case first=>
  by_cases hh0:box.length=0
  ·by_cases hh1:os.length=0
   ·by_cases hh2:pc= -1
    ·go_wp2_with fail;go_meet
     exact⟨congrArg Value.bool ((decide_eq_true (by omega)).symm.trans hq4),rfl⟩
    ·have e9:(pc==(-1:Int))=false:=(by simp only[beq_eq_false_iff_ne,ne_eq];omega);go_wp2_with fail;go_meet
     exact⟨congrArg Value.bool ((decide_eq_false (by omega)).symm.trans hq4),rfl⟩
   ·go_wp2_with fail;go_meet
    exact⟨congrArg Value.bool ((decide_eq_false (by omega)).symm.trans hq4),rfl⟩
  ·go_wp2_with fail;go_meet
   exact⟨congrArg Value.bool ((decide_eq_false (by omega)).symm.trans hq4),rfl⟩
 case rest=>
 obtain⟨rfl,hwc⟩:=hcut;rw[hwc];clear hwc;by_cases hf:fin=0
 ·subst hf;go_wp2_with fail;go_ret
  exact⟨rfl,HT.below⟩
 ·have ef:(fin==0)=false:=(by simpa using hf);go_wp2_with fail;go_ret
  exact⟨by rw[ef];rfl,HT.below⟩
end
section
open Go.RowKit
theorem tdB_split {n:Nat} {t:Td}:tdB n t= !decide (t.cK<0∨(n:Int)≤t.cK∨t.n< -1099511627776∨1099511627776<t.n):=by
 unfold tdB;rw[Bool.eq_iff_iff];simp only[Bool.and_eq_true,decide_eq_true_eq,Bool.not_eq_true',decide_eq_false_iff_not];omega
def okW (ps:List (List Ins)) (acs:List Ac) (ts:List Td) (q:Bool):Prop:=q=false∧(∀(j:Nat) (a:Ac),acs[j]?=some a→acB ps j a=true)∧(∀(j:Nat) (t:Td),ts[j]?=some t→tdB acs.length t=true)
theorem worldE_split {ps:List (List Ins)} {acs:List Ac} {ts:List Td} {v1 v2 v3:Int} (hv:jf ps=(v1,v2,v3)):
  (v3≠0→worldE ps ⟨acs,ts⟩=v3)∧(v3=0→okW ps acs ts (decide (acs.length=0∨8<acs.length∨500<ts.length))→worldE ps ⟨acs,ts⟩=0)∧(v3=0→¬okW ps acs ts (decide (acs.length=0∨8<acs.length∨500<ts.length))→worldE ps ⟨acs,ts⟩=8):=by
 have h:wdB ps ⟨acs,ts⟩=true↔okW ps acs ts (decide (acs.length=0∨8<acs.length∨500<ts.length)):=by
  unfold okW;rw[wdB_iff,decide_eq_false_iff_not];constructor
  ·intro h;have h1:1≤acs.length:=h.one;have h2:acs.length≤8:=h.few;have h3:ts.length≤500:=h.told;exact⟨by omega,fun j a ha=>acB_iff.2 (h.acs j a ha),fun j t ht=>h.tds t (zF ht)⟩
  ·rintro⟨h1,h2,h3⟩;exact⟨by show 1≤acs.length;omega,by show acs.length≤8;omega,by show ts.length≤500;omega,fun j a ha=>acB_iff.1 (h2 j a ha),fun t ht=>by
    obtain⟨j,hj⟩:=List.getElem?_of_mem ht;exact h3 j t hj⟩
 unfold worldE;rw[hv];refine⟨fun h3=>if_pos h3,fun h3 hg=>?_,fun h3 hg=>?_⟩
 ·rw[if_neg (by simpa using h3),if_pos (h.2 hg)]
 ·rw[if_neg (by simpa using h3),if_neg (fun hw=>hg (h.1 hw))]
set_option maxRecDepth 100000 in
set_option maxHeartbeats 8000000 in
theorem checkW_any (S T U:Nat→Prop) (Ap:Option Addr) (cp:Nat) (ps:List (List Ins)) (A:Option Addr) (c:Nat) (acs:List Ac) (Bp:Option Addr) (d:Nat) (ts:List Td) (w:World) (hu:dV w) (hr:aj pgE w S (.slice Ap ps.length cp) ps) (hq:aj acE w T (.slice A acs.length c) acs) (ht:aj tdE w U (.slice Bp ts.length d) ts):
  Calls Tryd.prog 26 #[.agg #[.slice Ap ps.length cp],.agg #[.slice A acs.length c,.slice Bp ts.length d]] w fun e w'=>e= .returned (.int .i64 (worldE ps ⟨acs,ts⟩))∧Below w.heap.size w w':=by
 obtain⟨-,l1,l2,-⟩:=hr.fw;obtain⟨-,l3,l4,l5⟩:=hq.fw;obtain⟨-,l6,l7,l8⟩:=ht.fw;have Hu:=zG hu;have Hr:=zG hr;have Hq:=zG hq;have Ht:=zG ht;clear hr hq ht hu;obtain⟨v1,v2,v3,hv⟩:∃v1 v2 v3,jf ps=(v1,v2,v3):=⟨_,_,_,rfl⟩;obtain⟨q,hq⟩:∃q,decide (acs.length=0∨8<acs.length∨500<ts.length)=q:=⟨_,rfl⟩;have hE:=worldE_split (acs:=acs) (ts:=ts) hv;rw[hq] at hE;have HE:=zG hE;have HV:=zG hv;clear hE hv;have T0:St w.heap.size w (((w.alloc (.cells #[.slice Ap ps.length cp] 26)).alloc (.cells #[.slice A acs.length c,.slice Bp ts.length d] 31))) [.blk (w.heap.size+1) #[.slice A acs.length c,.slice Bp ts.length d] 31,.blk w.heap.size #[.slice Ap ps.length cp] 26]:=((((St.start w (Nat.le_refl _)).new' #[.slice Ap ps.length cp] 26 (w.heap.size) (by simp)).1).new' #[.slice A acs.length c,.slice Bp ts.length d] 31 (w.heap.size+1) (by simp)).1;have HT:=zG T0;have hz:w.heap.size+1+1≤((w.alloc (.cells #[.slice Ap ps.length cp] 26)).alloc (.cells #[.slice A acs.length c,.slice Bp ts.length d] 31)).heap.size:=(by simp);clear T0;replace Hr:Hid (aj pgE (((w.alloc (.cells #[.slice Ap ps.length cp] 26)).alloc (.cells #[.slice A acs.length c,.slice Bp ts.length d] 31))) (Fr 0 [.blk (w.heap.size+1) #[.slice A acs.length c,.slice Bp ts.length d] 31,.blk w.heap.size #[.slice Ap ps.length cp] 26]) (.slice Ap ps.length cp) ps):=zG (aj.pool (E:=pgE) Hr.out (by show 0<1;omega) HT.out);replace Hq:Hid (aj acE (((w.alloc (.cells #[.slice Ap ps.length cp] 26)).alloc (.cells #[.slice A acs.length c,.slice Bp ts.length d] 31))) (Fr 0 [.blk (w.heap.size+1) #[.slice A acs.length c,.slice Bp ts.length d] 31,.blk w.heap.size #[.slice Ap ps.length cp] 26]) (.slice A acs.length c) acs):=zG (aj.pool (E:=acE) Hq.out (by decide) HT.out);replace Ht:Hid (aj tdE (((w.alloc (.cells #[.slice Ap ps.length cp] 26)).alloc (.cells #[.slice A acs.length c,.slice Bp ts.length d] 31))) (Fr 0 [.blk (w.heap.size+1) #[.slice A acs.length c,.slice Bp ts.length d] 31,.blk w.heap.size #[.slice Ap ps.length cp] 26]) (.slice Bp ts.length d) ts):=zG (aj.pool (E:=tdE) Ht.out (by decide) HT.out);go_enter Tryd.func26,Tryd.ntmps26
 go_upto_region 1 with fail;generalize ((w.alloc (.cells #[.slice Ap ps.length cp] 26)).alloc (.cells #[.slice A acs.length c,.slice Bp ts.length d] 31))=W1 at*;have h_:=HT.rz 2;go_wp2_with fail;have G9:=lH _ Ap cp ps _ (Hu.below HT.below) Hr.out;rw[HV.out] at G9;refine(G9).mono ?_;rintro en W2 ⟨rfl,hb⟩;clear h_;replace⟨HT,Hr,Hq,Ht⟩:=sp3 (HT.call hb) Hr.s Hq.s Ht.s;replace hz:=Nat.le_trans hz hb.size;clear hb;have h_:=HT.rz 2;clear G9;by_cases h3:v3=0
 ·subst h3;go_upto_region 4 with fail;go_cut [35] from 9 to 75 (fun s9 w9=>s9= .bool q∧w9=W2)
  case first=>
   by_cases hh0:acs.length=0
   ·have e0:((acs.length:Int)==0)=true:=(by simp only[beq_iff_eq];omega);go_wp2_with fail;go_meet
    exact⟨congrArg Value.bool ((decide_eq_true (by omega)).symm.trans hq),rfl⟩
   ·have e0:((acs.length:Int)==0)=false:=(by simp only[beq_eq_false_iff_ne,ne_eq];omega);by_cases hh1:8<acs.length
    ·have e1:(8:Int)<(acs.length:Int):=(by omega);go_wp2_with fail;go_meet
     exact⟨congrArg Value.bool ((decide_eq_true (by omega)).symm.trans hq),rfl⟩
    ·have e1:¬(8:Int)<(acs.length:Int):=(by omega);by_cases hh2:500<ts.length
     ·have e2:(500:Int)<(ts.length:Int):=(by omega);go_wp2_with fail;go_meet
      exact⟨congrArg Value.bool ((decide_eq_true (by omega)).symm.trans hq),rfl⟩
     ·have e2:¬(500:Int)<(ts.length:Int):=(by omega);go_wp2_with fail;go_meet
      exact⟨congrArg Value.bool ((decide_eq_false (by omega)).symm.trans hq),rfl⟩
  case rest=>
  obtain⟨rfl,hwc⟩:=hcut;rw[hwc];clear hwc
  cases q
  rotate_left;focus
   go_wp2_with fail;go_ret
   exact⟨by rw[HE.out.2.2 (by simp) (fun h=>by cases h.1)];rfl,HT.below⟩
  have hc:=of_decide_eq_false hq;have hm1:acs.length≤8:=(by omega);have hm2:ts.length≤500:=(by omega);clear hq hc;clear h_;have h_:=HT.rz 2;go_wp2_with fail;go_loopw [39] (fun i wl3=>∃k:Nat,(fun R9:List Res=>i= .int .i64 k∧k≤acs.length∧(∀(j:Nat) a,j<k→acs[j]?=some a→acB ps j a=true)∧St w.heap.size w wl3 R9∧aj pgE wl3 (Fr 0 R9) (.slice Ap ps.length cp) ps∧aj acE wl3 (Fr 0 R9) (.slice A acs.length c) acs∧aj tdE wl3 (Fr 0 R9) (.slice Bp ts.length d) ts∧w.heap.size+1+1≤wl3.heap.size) [.blk (w.heap.size+1) #[.slice A acs.length c,.slice Bp ts.length d] 31,.blk w.heap.size #[.slice Ap ps.length cp] 26]) (fun i _=>acs.length - (intOf i).toNat)
  case atStart=>
   refine⟨0,?_,?_,?_,HT.out,Hr.out,Hq.out,Ht.out,hz⟩
   ·rfl
   ·exact Nat.zero_le _
   ·exact fun j a h=>absurd h (by omega)
  case round=>
   generalize wr=wl3 at*;clear HT Hr Hq Ht hz;obtain⟨k,rfl,hk,hok,ht,pHr,pHq,pHt,hz⟩:=hrel;have HT:=zG ht;have Hr:Hid (aj pgE wl3 (Fr 0 [.blk (w.heap.size+1) #[.slice A acs.length c,.slice Bp ts.length d] 31,.blk w.heap.size #[.slice Ap ps.length cp] 26]) (.slice Ap ps.length cp) ps):=zG pHr;have Hq:Hid (aj acE wl3 (Fr 0 [.blk (w.heap.size+1) #[.slice A acs.length c,.slice Bp ts.length d] 31,.blk w.heap.size #[.slice Ap ps.length cp] 26]) (.slice A acs.length c) acs):=zG pHq;have Ht:Hid (aj tdE wl3 (Fr 0 [.blk (w.heap.size+1) #[.slice A acs.length c,.slice Bp ts.length d] 31,.blk w.heap.size #[.slice Ap ps.length cp] 26]) (.slice Bp ts.length d) ts):=zG pHt;clear ht pHr pHq pHt;have Hk:=zG hok;clear hok;have h_:=HT.rz 2;by_cases hlt:k<acs.length
   ·obtain⟨a,ha⟩:∃a,acs[k]?=some a:=⟨_,zD hlt⟩;have i2:(k:Int)<(acs.length:Int):=(by omega);have HA:=zG ha;clear ha;go_wp2_with fail;have G9:=chkActor_any _ _ Ap cp ps A c acs Bp ts.length d k a HA.out wl3 Hr.out Hq.out;obtain⟨z,hz9⟩:∃z,acB ps k a=z:=⟨_,rfl⟩;rw[hz9] at G9;have HZ:=zG hz9;clear hz9;refine(G9).mono ?_;rintro en W4 ⟨rfl,hb⟩;clear h_;replace⟨HT,Hr,Hq,Ht⟩:=sp3 (HT.call hb) Hr.s Hq.s Ht.s;replace hz:=Nat.le_trans hz hb.size;clear hb;have h_:=HT.rz 2;clear G9
    cases z
    ·go_wp2_with fail;go_ret
     exact⟨by rw[HE.out.2.2 (by simp) (fun h=>by have:=h.2.1 k a HA.out;rw[HZ.out] at this;cases this)];rfl,HT.below⟩
    ·have HN:Hid (∀(j:Nat) a,j<k+1→acs[j]?=some a→acB ps j a=true):=zG (fun j b hj hb=>by
      by_cases hjk:j=k
      ·subst hjk;rw[HA.out] at hb;injection hb with hb;rw[←hb];exact HZ.out
      ·exact Hk.out j b (by omega) hb)
     go_wp2_with fail;clear h_;go_roundw
     case rel=>
      refine⟨k+1,?_,?_,HN.out,HT.out,Hr.out,Hq.out,Ht.out,hz⟩
      ·go_num
      ·omega
     case measure=>simp[intOf];omega
   ·have i2:¬(k:Int)<(acs.length:Int):=(by omega);have HK:Hid (∀(j:Nat) a,acs[j]?=some a→acB ps j a=true):=zG (fun j b hb=>Hk.out j b (by have:=(zE.1 hb).1;omega) hb);clear Hk;go_wp2_with fail;go_loopw [51] (fun i wl5=>∃m:Nat,(fun R9:List Res=>i= .int .i64 m∧m≤ts.length∧(∀(j:Nat) t,j<m→ts[j]?=some t→tdB acs.length t=true)∧St w.heap.size w wl5 R9∧aj pgE wl5 (Fr 0 R9) (.slice Ap ps.length cp) ps∧aj acE wl5 (Fr 0 R9) (.slice A acs.length c) acs∧aj tdE wl5 (Fr 0 R9) (.slice Bp ts.length d) ts∧w.heap.size+1+1≤wl5.heap.size) [.blk (w.heap.size+1) #[.slice A acs.length c,.slice Bp ts.length d] 31,.blk w.heap.size #[.slice Ap ps.length cp] 26]) (fun i _=>ts.length - (intOf i).toNat)
    case atStart=>
     refine⟨0,?_,?_,?_,HT.out,Hr.out,Hq.out,Ht.out,hz⟩
     ·rfl
     ·exact Nat.zero_le _
     ·exact fun j t h=>absurd h (by omega)
    case round=>
     generalize wr=wl5 at*;clear HT Hr Hq Ht hz;obtain⟨m,rfl,hm,hok,ht,pHr,pHq,pHt,hz⟩:=hrel;have HT:=zG ht;have Hr:Hid (aj pgE wl5 (Fr 0 [.blk (w.heap.size+1) #[.slice A acs.length c,.slice Bp ts.length d] 31,.blk w.heap.size #[.slice Ap ps.length cp] 26]) (.slice Ap ps.length cp) ps):=zG pHr;have Hq:Hid (aj acE wl5 (Fr 0 [.blk (w.heap.size+1) #[.slice A acs.length c,.slice Bp ts.length d] 31,.blk w.heap.size #[.slice Ap ps.length cp] 26]) (.slice A acs.length c) acs):=zG pHq;have Ht:Hid (aj tdE wl5 (Fr 0 [.blk (w.heap.size+1) #[.slice A acs.length c,.slice Bp ts.length d] 31,.blk w.heap.size #[.slice Ap ps.length cp] 26]) (.slice Bp ts.length d) ts):=zG pHt;clear ht pHr pHq pHt;have Hm:=zG hok;clear hok;have h_:=HT.rz 2;by_cases hmt:m<ts.length
     ·obtain⟨x,hx⟩:∃x,ts[m]?=some x:=⟨_,zD hmt⟩;obtain⟨tb,tof,rfl,-,-,y0,y1⟩:=Ht.at_t hx;have HX:=zG hx;have i3:(m:Int)<(ts.length:Int):=(by omega);clear hx;clear h_;have h_:=HT.rz 2;go_upto_region 15 with fail;clear y0 y1;replace⟨HT,Hr,Hq,Ht⟩:=sp3 (HT.new' #[.int .i64 x.cK,.int .i64 x.n] 70 wl5.heap.size) Hr.s Hq.s Ht.s;replace hz:=HT.zz hz;clear h_;generalize (wl5.alloc (.cells #[.int .i64 x.cK,.int .i64 x.n] 70))=W6 at*;have h_:=HT.rz 2;obtain⟨z,hz9⟩:∃z,decide (x.cK<0∨(acs.length:Int)≤x.cK∨x.n< -1099511627776∨1099511627776<x.n)=z:=⟨_,rfl⟩;have hzz:=hz9;go_cut [75] from 52 to 75 (fun s9 w9=>s9= .bool z∧w9=W6)
      case first=>
       by_cases hh0:x.cK<0
       ·go_wp2_with fail;go_meet
        exact⟨congrArg Value.bool ((decide_eq_true (by omega)).symm.trans hzz),rfl⟩
       ·by_cases hh1:(acs.length:Int)≤x.cK
        ·go_wp2_with fail;go_meet
         exact⟨congrArg Value.bool ((decide_eq_true (by omega)).symm.trans hzz),rfl⟩
        ·by_cases hh2:x.n< -1099511627776
         ·go_wp2_with fail;go_meet
          exact⟨congrArg Value.bool ((decide_eq_true (by omega)).symm.trans hzz),rfl⟩
         ·by_cases hh3:1099511627776<x.n
          ·go_wp2_with fail;go_meet
           exact⟨congrArg Value.bool ((decide_eq_true (by omega)).symm.trans hzz),rfl⟩
          ·go_wp2_with fail;go_meet
           exact⟨congrArg Value.bool ((decide_eq_false (by omega)).symm.trans hzz),rfl⟩
      case rest=>
      obtain⟨rfl,hwc⟩:=hcut;rw[hwc];clear hwc;have hT:tdB acs.length x= !z:=(by rw[←hzz];exact tdB_split);have HT9:=zG hT;clear hT hzz hz9
      cases z
      ·have HN:Hid (∀(j:Nat) t,j<m+1→ts[j]?=some t→tdB acs.length t=true):=zG (fun j b hj hb=>by
        by_cases hjk:j=m
        ·subst hjk;rw[HX.out] at hb;injection hb with hb;rw[←hb];exact HT9.out
        ·exact Hm.out j b (by omega) hb)
       clear h_;replace⟨HT,Hr,Hq,Ht⟩:=sp3 (nd0 (HT.drop 0)) Hr.s Hq.s Ht.s;have h_:=HT.rz 2;go_wp2_with fail;clear h_;go_roundw
       case rel=>
        refine⟨m+1,?_,?_,HN.out,HT.out,Hr.out,Hq.out,Ht.out,hz⟩
        ·go_num
        ·omega
       case measure=>simp[intOf];omega
      ·go_wp2_with fail;go_ret
       exact⟨by rw[HE.out.2.2 (by simp) (fun h=>by have:=h.2.2 m x HX.out;rw[HT9.out] at this;cases this)];rfl,HT.below⟩
     ·have i4:¬(m:Int)<(ts.length:Int):=(by omega);go_wp2_with fail;go_ret
      exact⟨by rw[HE.out.2.1 (by simp) ⟨rfl,HK.out,fun j t hj=>Hm.out j t (by have:=(zE.1 hj).1;omega) hj⟩];rfl,HT.below⟩
 ·have e3:(v3 !=0)=true:=(by simpa using h3);go_wp2_with fail;go_ret
  exact⟨by rw[HE.out.1 h3];rfl,HT.below⟩
end
end Go.Proofs.YtdmocjnjbihloaaDoor
