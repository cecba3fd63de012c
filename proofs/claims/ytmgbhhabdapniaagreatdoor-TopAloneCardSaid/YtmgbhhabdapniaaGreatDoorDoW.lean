/- The walks of actor.Check, Copy, Do. Condition: the table of operators is there; for Do: world and act may be. -/
import Derived.Test.YtmgbhhabdapniaaGreatDoorConcatV
import Derived.Test.YtmgbhhabdapniaaGreatDoorActK
import Derived.Test.YtmgbhhabdapniaaGreatDoorMayW
import Derived.Test.YtmgbhhabdapniaaGreatDoorSortI
import Derived.Test.YtmgbhhabdapniaaGreatDoorVerCheck
import Derived.Deep.CutRange
import Derived.Test.YtmgbhhabdapniaaGreatDoorTypes
import Derived.Test.YtmgbhhabdapniaaGreatDoorActC
import Derived.Test.YtmgbhhabdapniaaGreatDoorActQ
import Derived.Test.YtmgbhhabdapniaaGreatDoorCloneH
import Derived.Test.YtmgbhhabdapniaaGreatDoorActRun
namespace Go.Proofs.YtmgbhhabdapniaaGreatDoor
section
section
open Go.RowKit
theorem pJ (xs ys:List V) (n b:Nat) (hn:xs.length+ys.length=n) (w:World) {v1 v2:Value} {t:TypeId} (hc:w.heap[b]?=some (.cells #[v1,v2] t (0,0))) (h1:aj vE w (fun _=>True) v1 xs) (h2:aj vE w (fun _=>True) v2 ys) (hl:xs.length+ys.length≤1000):
  Calls Tryz.prog 44 #[.slice (some ⟨b,0,none⟩) 2 2] w fun e w'=>∃A c,e= .returned (.slice A n c)∧w'.ownsRow w.heap.size 88 2 (.slice A n c) n (cat (vcs (xs++ys)))∧Below w.heap.size w w':=by
 have hr:aj vvE w (fun _=>True) (.slice (some ⟨b,0,none⟩) 2 2) [xs,ys]:=rT (E:=vvE) (css:=[[v1],[v2]]) hc trivial (Held.cons rfl ⟨_,rfl,h1⟩ (Held.cons rfl ⟨_,rfl,h2⟩ Held.nil)) rfl (by show 2*24≤140737488355328;decide) (by show 2≤maxLen;decide) 2 rfl;refine(sN _ _ 2 [xs,ys] w ⟨by show 2≤10;decide,by simp[sumL];omega⟩ hr).mono ?_;rintro en w' ⟨v,rfl,⟨css,hH,hown,-⟩,hb⟩;have e:[xs,ys].flatten=xs++ys:=(by simp);rw[e] at hH hown;obtain rfl:=oG hH;obtain⟨A,c,rfl⟩:=bZ hown;have hl2:(xs++ys).length=n:=(by rw[List.length_append];exact hn);rw[hl2] at hown ⊢;exact⟨A,c,rfl,hown,hb⟩
end
section
open Go.RowKit
theorem acB_split (ps:List (List Ins)) (n:Nat) (a:Ac):acB ps n a=(!decide (a.kind<0∨(ps.length:Int)≤a.kind∨a.parent< -1∨(n:Int)≤a.parent∨a.fin<0∨8<a.fin∨a.regs.length≠8∨6<a.box.length)&&
  (!decide (hpB a.heap (aC a)=false∨a.pc< -1∨((ps.getD a.kind.toNat []).length:Int)≤a.pc)&&(!(a.box.any (fun v=>v.k !=2))&&(a.fin==0||decide (a.box.length=0∧a.heap.ah.length=0∧a.pc= -1))))):=by
 have hb:a.box.all (fun v=>v.k==2)= !(a.box.any (fun v=>v.k !=2)):=(by rw[List.not_any_eq_all_not];congr 1;funext v;simp[bne]);unfold acB;rw[hb];generalize a.box.any (fun v=>v.k !=2)=x;generalize hpB a.heap (aC a)=y;have hc:decide (a.box.length=0∧a.heap.ah.length=0∧a.pc= -1)=(decide (a.box.length=0)&&decide (a.heap.ah.length=0)&&a.pc== -1):=by
  rw[Bool.eq_iff_iff];simp[and_assoc]
 rw[hc];generalize (a.fin==0||(decide (a.box.length=0)&&decide (a.heap.ah.length=0)&&a.pc== -1))=z;have h1:(decide (0≤a.kind)&&decide (a.kind<ps.length)&&decide (-1≤a.parent)&&decide (a.parent<(n:Int))&&decide (0≤a.fin)&&decide (a.fin≤8)&&decide (a.regs.length=8)&&decide (a.box.length≤6))=
   !decide (a.kind<0∨(ps.length:Int)≤a.kind∨a.parent< -1∨(n:Int)≤a.parent∨a.fin<0∨8<a.fin∨a.regs.length≠8∨6<a.box.length):=by
  rw[Bool.eq_iff_iff];simp only[Bool.and_eq_true,decide_eq_true_eq,Bool.not_eq_true',decide_eq_false_iff_not];omega
 have h2:(y&&decide (-1≤a.pc)&&decide (a.pc<((ps.getD a.kind.toNat []).length:Int)))= !decide (y=false∨a.pc< -1∨((ps.getD a.kind.toNat []).length:Int)≤a.pc):=by
  rw[Bool.eq_iff_iff];simp only[Bool.and_eq_true,decide_eq_true_eq,Bool.not_eq_true',decide_eq_false_iff_not,not_or,Bool.not_eq_false];constructor<;>intro h<;>refine⟨?_,?_⟩<;>simp_all<;>omega
 rw[←h2,h1.symm];simp only[Bool.and_assoc]
theorem at_a8 {w:World} {S:Nat→Prop} {acs:List Ac} {b o c m n:Nat} {x:Ac} (h:aj acE w S (.slice (some ⟨b,o,none⟩) m c) acs) (hx:acs[n]?=some x):
  ∃Bo co Br cr Bb cb,b<w.heap.size∧w.cell? ⟨b,o+n*8,none⟩=some (.int .i64 x.kind)∧w.cell? ⟨b,o+n*8+1,none⟩=some (.int .i64 x.parent)∧
   w.cell? ⟨b,o+n*8+2,none⟩=some (.int .i64 x.heap.most)∧w.cell? ⟨b,o+n*8+3,none⟩=some (.slice Bo x.heap.ah.length co)∧
   w.cell? ⟨b,o+n*8+4,none⟩=some (.slice Br x.regs.length cr)∧w.cell? ⟨b,o+n*8+5,none⟩=some (.int .i64 x.pc)∧
   w.cell? ⟨b,o+n*8+6,none⟩=some (.slice Bb x.box.length cb)∧w.cell? ⟨b,o+n*8+7,none⟩=some (.int .i64 x.fin)∧
   aj obE w S (.slice Bo x.heap.ah.length co) x.heap.ah∧aj vE w S (.slice Br x.regs.length cr) x.regs∧aj vE w S (.slice Bb x.box.length cb) x.box:=by
 obtain⟨b',o',Bo,co,Br,cr,Bb,cb,hA,_,h1,h2,h3,h4,h5,h6,h7,h8,h9,h10,h11,h12⟩:=h.at_a hx;injection hA with hA
 injection hA with e1 e2
 subst e1 e2;exact⟨Bo,co,Br,cr,Bb,cb,h1,h2,h3,h4,h5,h6,h7,h8,h9,h10,h11,h12⟩
theorem ou {w:World} {S:Nat→Prop} {ps:List (List Ins)} {b o c m n:Nat} {x:List Ins} (h:aj pgE w S (.slice (some ⟨b,o,none⟩) m c) ps) (hx:ps[n]?=some x):∃lb lc,w.cell? ⟨b,o+n,none⟩=some (.slice lb x.length lc):=by
 obtain⟨b',o',lb,lc,hA,_,_,h1,_⟩:=h.at_s hx;injection hA with hA
 injection hA with e1 e2
 subst e1 e2;exact⟨lb,lc,h1⟩
def Tells0 (F:Nat) (w:World) (p:V→Bool):Prop:=
 ∀(x:V) (W:World),Below w.heap.size w W→Calls Tryz.prog F #[.agg #[.int .i64 x.k,.int .i64 x.n]] W fun e W'=>e= .returned (.bool (p x))∧Below W.heap.size W W'
theorem Tells0.gives {F:Nat} {w W:World} {p:V→Bool} (hf:Tells0 F w p) (b:Bool) {x:V} (hp:Hid (p x=b)) (hb:Below w.heap.size w W):
  Calls Tryz.prog F #[.agg #[.int .i64 x.k,.int .i64 x.n]] W fun e W'=>e= .returned (.bool b)∧Below W.heap.size W W':=
 (hf x W hb).mono fun _ _ ⟨he,h⟩=>⟨by rw[he,hp.out],h⟩
set_option maxHeartbeats 400000 in
theorem tY (F:Nat) (p:V→Bool) (S:Nat→Prop) (A:Option Addr) (c:Nat) (l:List V) (w:World) (hr:aj vE w S (.slice A l.length c) l) (hf:Tells0 F w p)
  (hen:∀(args:Array Value) (W:World),(callFunc F args).run Tryz.prog W= .ok (.enter F args) W):
  Calls Tryz.prog 137 #[.slice A l.length c,.func (.func F) #[] #[]] w (FoundV p l w):=by
 obtain⟨-,h1,h2,h3⟩:=hr.fw;have Hr:=zG hr;clear hr;go_enter Tryz.func137,Tryz.ntmps137
 go_wp2
 go_loopw [5,8] (fun _ i wr=>∃k:Nat,k≤l.length∧i= .int .i64 k∧(l.take k).any p=false∧Below w.heap.size w wr) (fun _ i _=>l.length - (intOf i).toNat)
 case atStart=>exact⟨0,by omega,rfl,by simp,Below.refl _ _⟩
 case round=>
  obtain⟨k,hk,rfl,hany,hb⟩:=hrel;by_cases hlt:k<l.length
  ·obtain⟨x,hx⟩:∃x,l[k]?=some x:=⟨l[k],zD hlt⟩;obtain⟨b,o,rfl,_,_,g0,g1⟩:=(Hr.below (by decide) hb).at_v hx;have Hany:=zG hany;have Hx:=zG hx;clear hany hx
   cases hp:p x
   all_goals
    have Hp:=zG hp;clear hp;go_wp2_with (refine(hf.gives _ Hp hb).mono ?_;rintro e w' ⟨rfl,hb1⟩)
   ·go_roundw
    case rel=>exact⟨k+1,by omega,by go_num,any_take_succ Hx.out Hany.out Hp.out,hb.trans (hb1.mono hb.size)⟩
    case measure=>simp[intOf];omega
   ·go_ret
    exact⟨_,rfl,by simp[any_at Hx.out Hp.out],hb.trans (hb1.mono hb.size)⟩
  ·have Hany:=zG hany;clear hany;go_wp2
   go_ret
   exact⟨_,rfl,by have:=Hany.out;rw[List.take_of_length_le (by omega)] at this;simp[this],hb⟩
set_option maxHeartbeats 400000 in
theorem qN (F:Nat) (p:V→Bool) (S:Nat→Prop) (A:Option Addr) (c:Nat) (l:List V) (w:World) (hr:aj vE w S (.slice A l.length c) l) (hf:Tells0 F w p)
  (hen:∀(args:Array Value) (W:World),(callFunc F args).run Tryz.prog W= .ok (.enter F args) W):
  Calls Tryz.prog 104 #[.slice A l.length c,.func (.func F) #[] #[]] w fun e w'=>e= .returned (.bool (l.any p))∧Below w.heap.size w w':=by
 have Hr:=zG hr;clear hr;go_enter Tryz.func104,Tryz.ntmps104
 go_wp2_with (refine(tY F p S A c l _ Hr.out hf hen).mono ?_;rintro e w' ⟨r,rfl,hd,hb⟩;have Hd:=zG hd;clear hd)
 go_ret
 exact⟨ret_bool Hd.out,hb⟩
theorem chk1_any (w:World):Tells0 105 w (fun v=>v.k !=2):=by
 intro x W hb;clear hb;go_enter Tryz.func105,Tryz.ntmps105
 go_wp2_with fail;go_ret
 exact⟨rfl,(Below.refl _ _).alloc (Nat.le_refl _) _⟩
set_option maxRecDepth 100000 in
set_option maxHeartbeats 8000000 in
theorem chkActor_any (S T:Nat→Prop) (Ap:Option Addr) (cp:Nat) (ps:List (List Ins)) (A:Option Addr) (c:Nat) (acs:List Ac) (Bp:Option Addr) (m d n:Nat) (a:Ac) (ha:acs[n]?=some a) (w:World) (hr:aj pgE w S (.slice Ap ps.length cp) ps) (hq:aj acE w T (.slice A acs.length c) acs):
  Calls Tryz.prog 73 #[.agg #[.slice Ap ps.length cp],.agg #[.slice A acs.length c,.slice Bp m d],.int .i64 n] w fun e w'=>e= .returned (.bool (acB ps n a))∧Below w.heap.size w w':=by
 obtain⟨kind,par,⟨most,os⟩,regs,pc,box,fin⟩:=a;obtain⟨q1,hq1⟩:∃q,decide (kind<0∨(ps.length:Int)≤kind∨par< -1∨(n:Int)≤par∨fin<0∨8<fin∨regs.length≠8∨6<box.length)=q:=⟨_,rfl⟩;obtain⟨q4,hq4⟩:∃q,decide (box.length=0∧os.length=0∧pc= -1)=q:=⟨_,rfl⟩;obtain⟨q3,hq3⟩:∃q,box.any (fun v=>v.k !=2)=q:=⟨_,rfl⟩;obtain⟨q2,hq2⟩:∃q,decide (hpB ⟨most,os⟩ (regs++box)=false∨pc< -1∨((ps.getD kind.toNat []).length:Int)≤pc)=q:=⟨_,rfl⟩;have hres:acB ps n ⟨kind,par,⟨most,os⟩,regs,pc,box,fin⟩=(!q1&&(!q2&&(!q3&&(fin==0||q4)))):=(by rw[acB_split,←hq1,←hq2,←hq3,←hq4];rfl);rw[hres];clear hres;have HQ2:=zG hq2;have HQ3:=zG hq3;clear hq2 hq3;obtain⟨wb,wo,Bo,co,Br,cr,Bb,cb,rfl,-,-,-,-,-,-,-,-,-,-,ho,hg,hx⟩:=hq.at_a ha;dsimp only at ho hg hx;have HA:=zG ha;have Hr:=zG hr;have Hq:=zG hq;have Ho:=zG ho;have Hg:=zG hg;have Hx:=zG hx;have hn:n<acs.length:=(zE.1 ha).1;have i1:(0:Int)≤(n:Int):=(by omega);have i2:(n:Int)<(acs.length:Int):=(by omega);obtain⟨-,l1,l2,-⟩:=hr.fw;obtain⟨-,l3,l4,l9⟩:=hg.fw;obtain⟨-,l5,l6,l7⟩:=hx.fw;clear ha hr hq ho hg hx;have T0:St w.heap.size w (((w.alloc (.cells #[.slice Ap ps.length cp] 24)).alloc (.cells #[.slice (some ⟨wb,wo,none⟩) acs.length c,.slice Bp m d] 29))) [.blk (w.heap.size+1) #[.slice (some ⟨wb,wo,none⟩) acs.length c,.slice Bp m d] 29,.blk w.heap.size #[.slice Ap ps.length cp] 24]:=((((St.start w (Nat.le_refl _)).new' #[.slice Ap ps.length cp] 24 (w.heap.size) (by simp)).1).new' #[.slice (some ⟨wb,wo,none⟩) acs.length c,.slice Bp m d] 29 (w.heap.size+1) (by simp)).1;have HT:=zG T0;have hz:w.heap.size+1+1≤((w.alloc (.cells #[.slice Ap ps.length cp] 24)).alloc (.cells #[.slice (some ⟨wb,wo,none⟩) acs.length c,.slice Bp m d] 29)).heap.size:=(by simp);clear T0;replace Hr:Hid (aj pgE (((w.alloc (.cells #[.slice Ap ps.length cp] 24)).alloc (.cells #[.slice (some ⟨wb,wo,none⟩) acs.length c,.slice Bp m d] 29))) (Fr 0 [.blk (w.heap.size+1) #[.slice (some ⟨wb,wo,none⟩) acs.length c,.slice Bp m d] 29,.blk w.heap.size #[.slice Ap ps.length cp] 24]) (.slice Ap ps.length cp) ps):=zG (aj.pool (E:=pgE) Hr.out (by show 0<1;omega) HT.out);replace Hq:Hid (aj acE (((w.alloc (.cells #[.slice Ap ps.length cp] 24)).alloc (.cells #[.slice (some ⟨wb,wo,none⟩) acs.length c,.slice Bp m d] 29))) (Fr 0 [.blk (w.heap.size+1) #[.slice (some ⟨wb,wo,none⟩) acs.length c,.slice Bp m d] 29,.blk w.heap.size #[.slice Ap ps.length cp] 24]) (.slice (some ⟨wb,wo,none⟩) acs.length c) acs):=zG (aj.pool (E:=acE) Hq.out (by decide) HT.out);replace Ho:Hid (aj obE (((w.alloc (.cells #[.slice Ap ps.length cp] 24)).alloc (.cells #[.slice (some ⟨wb,wo,none⟩) acs.length c,.slice Bp m d] 29))) (Fr 0 [.blk (w.heap.size+1) #[.slice (some ⟨wb,wo,none⟩) acs.length c,.slice Bp m d] 29,.blk w.heap.size #[.slice Ap ps.length cp] 24]) (.slice Bo os.length co) os):=zG (aj.pool (E:=obE) Ho.out (by decide) HT.out);replace Hg:Hid (aj vE (((w.alloc (.cells #[.slice Ap ps.length cp] 24)).alloc (.cells #[.slice (some ⟨wb,wo,none⟩) acs.length c,.slice Bp m d] 29))) (Fr 0 [.blk (w.heap.size+1) #[.slice (some ⟨wb,wo,none⟩) acs.length c,.slice Bp m d] 29,.blk w.heap.size #[.slice Ap ps.length cp] 24]) (.slice Br regs.length cr) regs):=zG (aj.pool (E:=vE) Hg.out (by decide) HT.out);replace Hx:Hid (aj vE (((w.alloc (.cells #[.slice Ap ps.length cp] 24)).alloc (.cells #[.slice (some ⟨wb,wo,none⟩) acs.length c,.slice Bp m d] 29))) (Fr 0 [.blk (w.heap.size+1) #[.slice (some ⟨wb,wo,none⟩) acs.length c,.slice Bp m d] 29,.blk w.heap.size #[.slice Ap ps.length cp] 24]) (.slice Bb box.length cb) box):=zG (aj.pool (E:=vE) Hx.out (by decide) HT.out);go_enter Tryz.func73,Tryz.ntmps73
 go_upto_region 1 with fail;generalize ((w.alloc (.cells #[.slice Ap ps.length cp] 24)).alloc (.cells #[.slice (some ⟨wb,wo,none⟩) acs.length c,.slice Bp m d] 29))=W1 at*;have h_:=HT.rz 2;obtain⟨Bo,co,Br,cr,Bb,cb,xz,x0,x1,x2,x3,x4,x5,x6,x7,ho,hg,hx⟩:=at_a8 Hq.out HA.out;dsimp only at x0 x1 x2 x3 x4 x5 x6 x7 ho hg hx;replace Ho:=zG ho;replace Hg:=zG hg;replace Hx:=zG hx;clear ho hg hx;replace Hr:Hid (aj pgE W1 (Fr 0 [.blk (w.heap.size+1) #[.slice (some ⟨wb,wo,none⟩) acs.length c,.slice Bp m d] 29,.blk w.heap.size #[.slice Ap ps.length cp] 24]) (.slice Ap ps.length cp) ps):=Hr;replace Hq:Hid (aj acE W1 (Fr 0 [.blk (w.heap.size+1) #[.slice (some ⟨wb,wo,none⟩) acs.length c,.slice Bp m d] 29,.blk w.heap.size #[.slice Ap ps.length cp] 24]) (.slice (some ⟨wb,wo,none⟩) acs.length c) acs):=Hq;replace Ho:Hid (aj obE W1 (Fr 0 [.blk (w.heap.size+1) #[.slice (some ⟨wb,wo,none⟩) acs.length c,.slice Bp m d] 29,.blk w.heap.size #[.slice Ap ps.length cp] 24]) (.slice Bo os.length co) os):=Ho;replace Hg:Hid (aj vE W1 (Fr 0 [.blk (w.heap.size+1) #[.slice (some ⟨wb,wo,none⟩) acs.length c,.slice Bp m d] 29,.blk w.heap.size #[.slice Ap ps.length cp] 24]) (.slice Br regs.length cr) regs):=Hg;replace Hx:Hid (aj vE W1 (Fr 0 [.blk (w.heap.size+1) #[.slice (some ⟨wb,wo,none⟩) acs.length c,.slice Bp m d] 29,.blk w.heap.size #[.slice Ap ps.length cp] 24]) (.slice Bb box.length cb) box):=Hx;go_upto_region 2 with fail;clear x0 x1 x2 x3 x4 x5 x6 x7 xz;replace⟨HT,Hr,Hq,Ho,Hg,Hx⟩:=sp5 (HT.new' #[.int .i64 kind,.int .i64 par,.int .i64 most,.slice Bo os.length co,.slice Br regs.length cr,.int .i64 pc,.slice Bb box.length cb,.int .i64 fin] 54 W1.heap.size) Hr.s Hq.s Ho.s Hg.s Hx.s;replace hz:=HT.zz hz;clear h_;generalize (W1.alloc (.cells #[.int .i64 kind,.int .i64 par,.int .i64 most,.slice Bo os.length co,.slice Br regs.length cr,.int .i64 pc,.slice Bb box.length cb,.int .i64 fin] 54))=W2 at*;obtain⟨r_a,q_a,-,-,r_p,q_p,-⟩:=HT.rules;have z_a:W1.heap.size<W2.heap.size:=(HT.in_ 0 rfl rfl).2;have z_p:w.heap.size<W2.heap.size:=(HT.in_ 2 rfl rfl).2;go_cut [57] from 9 to 57 (fun s9 w9=>s9= .bool q1∧w9=W2)
 case first=>
  by_cases hh0:kind<0
  ·go_wp2_with fail;go_meet
   exact⟨congrArg Value.bool ((decide_eq_true (by omega)).symm.trans hq1),rfl⟩
  ·by_cases hh1:(ps.length:Int)≤kind
   ·go_wp2_with fail;go_meet
    exact⟨congrArg Value.bool ((decide_eq_true (by omega)).symm.trans hq1),rfl⟩
   ·by_cases hh2:par< -1
    ·go_wp2_with fail;go_meet
     exact⟨congrArg Value.bool ((decide_eq_true (by omega)).symm.trans hq1),rfl⟩
    ·by_cases hh3:(n:Int)≤par
     ·go_wp2_with fail;go_meet
      exact⟨congrArg Value.bool ((decide_eq_true (by omega)).symm.trans hq1),rfl⟩
     ·by_cases hh4:fin<0
      ·go_wp2_with fail;go_meet
       exact⟨congrArg Value.bool ((decide_eq_true (by omega)).symm.trans hq1),rfl⟩
      ·by_cases hh5:8<fin
       ·go_wp2_with fail;go_meet
        exact⟨congrArg Value.bool ((decide_eq_true (by omega)).symm.trans hq1),rfl⟩
       ·by_cases hh6:regs.length≠8
        ·have e6:((regs.length:Int) !=8)=true:=(by simp only[bne_iff_ne,ne_eq];omega);go_wp2_with fail;go_meet
         exact⟨congrArg Value.bool ((decide_eq_true (by omega)).symm.trans hq1),rfl⟩
        ·have e6:((regs.length:Int) !=8)=false:=(by simp only[bne_eq_false_iff_eq];omega);by_cases hh7:6<box.length
         ·have e7:(6:Int)<(box.length:Int):=(by omega);go_wp2_with fail;go_meet
          exact⟨congrArg Value.bool ((decide_eq_true (by omega)).symm.trans hq1),rfl⟩
         ·have e7:¬(6:Int)<(box.length:Int):=(by omega);go_wp2_with fail;go_meet
          exact⟨congrArg Value.bool ((decide_eq_false (by omega)).symm.trans hq1),rfl⟩
 case rest=>
 obtain⟨rfl,hwc⟩:=hcut;rw[hwc];clear hwc
 cases q1
 rotate_left;focus
  go_wp2_with fail;go_ret
  exact⟨rfl,HT.below⟩
 have hC:=of_decide_eq_false hq1;obtain⟨k,rfl⟩:=Int.eq_ofNat_of_zero_le (show 0≤kind by omega);have hk:k<ps.length:=(by omega);have k1:(0:Int)≤(k:Int):=(by omega);have k2:(k:Int)<(ps.length:Int):=(by omega);obtain⟨l,hl⟩:∃l,ps[k]?=some l:=⟨_,zD hk⟩;have hkl:ps.getD (k:Int).toNat []=l:=(by rw[Int.toNat_natCast,getD_some hl]);have hq2:=HQ2.out;rw[hkl] at hq2;have h8:regs.length=8:=(by omega);have h6:box.length≤6:=(by omega);have HL:=zG hl;have H8:=zG h8;clear hl hC hq1 h8 hkl;obtain⟨fb,fo,lb,lc,hAp,-,-,-,-⟩:=Hr.at_s HL.out;subst hAp
 cases q2
 rotate_left;focus
  have hbad:=of_decide_eq_true hq2;clear hq2;rcases hbad with hp|hp|hp
  ·have HC:=zG (kR hp);clear hp;have e0:((8:Int) !=0)=true:=rfl;clear r_a q_a r_p q_p z_a z_p;obtain⟨r_a,q_a,-,-,r_p,q_p,-⟩:=HT.rules;have z_a:W1.heap.size<W2.heap.size:=(HT.in_ 0 rfl rfl).2;have z_p:w.heap.size<W2.heap.size:=(HT.in_ 2 rfl rfl).2;go_upto_region 4 with fail;clear r_a q_a r_p q_p z_a z_p;obtain⟨r_a,q_a,-,-,r_p,q_p,-⟩:=HT.rules;have z_a:W1.heap.size<W2.heap.size:=(HT.in_ 0 rfl rfl).2;have z_p:w.heap.size<W2.heap.size:=(HT.in_ 2 rfl rfl).2;refine av [.still [0,1,2,3,4,5],.loud 6 [0,1],.loud 7 [0,1],.loud 8 [],.still [9,10,11,12,13,14,15,16,17,18,19,20,21,22,23,24,25,26]] (by kernel_rfl) (by kernel_rfl) ?_;refine ps_ ?_;repeat still_step
   refine zH ?_;refine pl_ ?_;go_wp2_with fail;replace⟨HT,Hr,Hq,Ho,Hg,Hx⟩:=sp5 (HT.new' #[.slice Br regs.length cr,.slice Bb box.length cb] 52 W2.heap.size) Hr.s Hq.s Ho.s Hg.s Hx.s;replace hz:=HT.zz hz;clear r_a q_a r_p q_p z_a z_p;generalize (W2.alloc (.cells #[.slice Br regs.length cr,.slice Bb box.length cb] 52))=W3 at*;obtain⟨-,-,r_a,q_a,-,-,r_p,q_p,-⟩:=HT.rules;have z_a:W1.heap.size<W3.heap.size:=(HT.in_ 1 rfl rfl).2;have z_p:w.heap.size<W3.heap.size:=(HT.in_ 3 rfl rfl).2;obtain⟨lb,lc,y0⟩:=ou Hr.out HL.out;refine ag_ ?_;refine pl_ ?_;go_wp2_with fail;replace⟨HT,Hr,Hq,Ho,Hg,Hx⟩:=sp5 HT.drew' Hr.s Hq.s Ho.s Hg.s Hx.s;replace hz:=HT.zz hz;refine(pJ regs box (regs.length+box.length) W2.heap.size rfl W3.drew (HT.heap 0 rfl) (Hg.keep (by decide) (fun _ _ _=>⟨trivial,rfl⟩)) (Hx.keep (by decide) (fun _ _ _=>⟨trivial,rfl⟩)) (by rw[H8.out];omega)).mono ?_;rintro en W9 ⟨Ac,cc,rfl,hown,hb⟩;clear r_a q_a r_p q_p z_a z_p;clear y0;replace⟨HT,Hr,Hq,Ho,Hg,Hx⟩:=sp5 (HT.ownRow hb hown (m:=w.heap.size) (by omega)) Hr.s Hq.s Ho.s Hg.s Hx.s;replace hz:=Nat.le_trans hz hb.size;clear hb hown;obtain⟨-,-,r_a,q_a,-,-,r_p,q_p,-⟩:=HT.rules;have z_a:W1.heap.size<W9.heap.size:=(HT.in_ 2 rfl rfl).2;have z_p:w.heap.size<W9.heap.size:=(HT.in_ 4 rfl rfl).2;obtain⟨lb,lc,y0⟩:=ou Hr.out HL.out;go_wp2_with fail;refine ag_ ?_;refine pl_ ?_;go_wp2_with fail;have hcr:=HT.iM (E:=vE) (n:=0) 0 rfl rfl List.length_append.symm (gY (regs++box)) (by rw[List.length_append,H8.out];show(8+box.length)*16≤_;omega) (Nat.zero_le _) (by decide);rw[←List.length_append] at hcr;have G9:=dN most _ _ Bo Ac co cc os (regs++box) _ _ HC.out Ho.out hcr;rw[List.length_append] at G9;refine(G9).mono ?_;rintro en W4 ⟨rfl,hb⟩;clear r_a q_a r_p q_p z_a z_p;replace⟨HT,Hr,Hq,Ho,Hg,Hx⟩:=sp5 (HT.call hb) Hr.s Hq.s Ho.s Hg.s Hx.s;replace hz:=Nat.le_trans hz hb.size;clear hb;clear hcr G9 y0;obtain⟨-,-,r_a,q_a,-,-,r_p,q_p,-⟩:=HT.rules;have z_a:W1.heap.size<W4.heap.size:=(HT.in_ 2 rfl rfl).2;have z_p:w.heap.size<W4.heap.size:=(HT.in_ 4 rfl rfl).2;obtain⟨lb,lc,y0⟩:=ou Hr.out HL.out;go_wp2_with fail;refine⟨trivial,?_⟩;refine ps_ ?_;refine wpStill_step (fun K9 hK9=>?_);go_simp
   iterate 17 (generalize hA9:(Act.mk _ _)=a9;refine hK9 a9 ?_;clear hK9 K9;refine wpStill_step (fun K9 hK9=>?_);subst hA9;go_simp)
   generalize hA9:(Act.mk _ _)=a9;refine hK9 a9 ?_;subst hA9;refine zH ?_;refine zI ?_;go_wp2_with fail;go_ret
   exact⟨rfl,HT.below⟩
  all_goals
   try (have p1:¬pc< -1:=by omega)
   cases hpp:hpB ⟨most,os⟩ (regs++box)
   ·have HC:=zG (kR hpp);clear hpp;clear r_a q_a r_p q_p z_a z_p;obtain⟨r_a,q_a,-,-,r_p,q_p,-⟩:=HT.rules;have z_a:W1.heap.size<W2.heap.size:=(HT.in_ 0 rfl rfl).2;have z_p:w.heap.size<W2.heap.size:=(HT.in_ 2 rfl rfl).2;go_upto_region 4 with fail;clear r_a q_a r_p q_p z_a z_p;obtain⟨r_a,q_a,-,-,r_p,q_p,-⟩:=HT.rules;have z_a:W1.heap.size<W2.heap.size:=(HT.in_ 0 rfl rfl).2;have z_p:w.heap.size<W2.heap.size:=(HT.in_ 2 rfl rfl).2;refine av [.still [0,1,2,3,4,5],.loud 6 [0,1],.loud 7 [0,1],.loud 8 [],.still [9,10,11,12,13,14,15,16,17,18,19,20,21,22,23,24,25,26]] (by kernel_rfl) (by kernel_rfl) ?_;refine ps_ ?_;repeat still_step
    refine zH ?_;refine pl_ ?_;go_wp2_with fail;replace⟨HT,Hr,Hq,Ho,Hg,Hx⟩:=sp5 (HT.new' #[.slice Br regs.length cr,.slice Bb box.length cb] 52 W2.heap.size) Hr.s Hq.s Ho.s Hg.s Hx.s;replace hz:=HT.zz hz;clear r_a q_a r_p q_p z_a z_p;generalize (W2.alloc (.cells #[.slice Br regs.length cr,.slice Bb box.length cb] 52))=W5 at*;obtain⟨-,-,r_a,q_a,-,-,r_p,q_p,-⟩:=HT.rules;have z_a:W1.heap.size<W5.heap.size:=(HT.in_ 1 rfl rfl).2;have z_p:w.heap.size<W5.heap.size:=(HT.in_ 3 rfl rfl).2;obtain⟨lb,lc,y0⟩:=ou Hr.out HL.out;refine ag_ ?_;refine pl_ ?_;go_wp2_with fail;replace⟨HT,Hr,Hq,Ho,Hg,Hx⟩:=sp5 HT.drew' Hr.s Hq.s Ho.s Hg.s Hx.s;replace hz:=HT.zz hz;refine(pJ regs box (regs.length+box.length) W2.heap.size rfl W5.drew (HT.heap 0 rfl) (Hg.keep (by decide) (fun _ _ _=>⟨trivial,rfl⟩)) (Hx.keep (by decide) (fun _ _ _=>⟨trivial,rfl⟩)) (by rw[H8.out];omega)).mono ?_;rintro en W9 ⟨Ac,cc,rfl,hown,hb⟩;clear r_a q_a r_p q_p z_a z_p;clear y0;replace⟨HT,Hr,Hq,Ho,Hg,Hx⟩:=sp5 (HT.ownRow hb hown (m:=w.heap.size) (by omega)) Hr.s Hq.s Ho.s Hg.s Hx.s;replace hz:=Nat.le_trans hz hb.size;clear hb hown;obtain⟨-,-,r_a,q_a,-,-,r_p,q_p,-⟩:=HT.rules;have z_a:W1.heap.size<W9.heap.size:=(HT.in_ 2 rfl rfl).2;have z_p:w.heap.size<W9.heap.size:=(HT.in_ 4 rfl rfl).2;obtain⟨lb,lc,y0⟩:=ou Hr.out HL.out;go_wp2_with fail;refine ag_ ?_;refine pl_ ?_;go_wp2_with fail;have hcr:=HT.iM (E:=vE) (n:=0) 0 rfl rfl List.length_append.symm (gY (regs++box)) (by rw[List.length_append,H8.out];show(8+box.length)*16≤_;omega) (Nat.zero_le _) (by decide);rw[←List.length_append] at hcr;have G9:=dN most _ _ Bo Ac co cc os (regs++box) _ _ HC.out Ho.out hcr;rw[List.length_append] at G9;refine(G9).mono ?_;rintro en W6 ⟨rfl,hb⟩;clear r_a q_a r_p q_p z_a z_p;replace⟨HT,Hr,Hq,Ho,Hg,Hx⟩:=sp5 (HT.call hb) Hr.s Hq.s Ho.s Hg.s Hx.s;replace hz:=Nat.le_trans hz hb.size;clear hb;clear hcr G9 y0;obtain⟨-,-,r_a,q_a,-,-,r_p,q_p,-⟩:=HT.rules;have z_a:W1.heap.size<W6.heap.size:=(HT.in_ 2 rfl rfl).2;have z_p:w.heap.size<W6.heap.size:=(HT.in_ 4 rfl rfl).2;obtain⟨lb,lc,y0⟩:=ou Hr.out HL.out;go_wp2_with fail;refine⟨trivial,?_⟩;refine ps_ ?_;refine wpStill_step (fun K9 hK9=>?_);go_simp
    iterate 17 (generalize hA9:(Act.mk _ _)=a9;refine hK9 a9 ?_;clear hK9 K9;refine wpStill_step (fun K9 hK9=>?_);subst hA9;go_simp)
    generalize hA9:(Act.mk _ _)=a9;refine hK9 a9 ?_;subst hA9;refine zH ?_;refine zI ?_;go_wp2_with fail;go_ret
    exact⟨rfl,HT.below⟩
   ·have HC:=zG (lT hpp);clear hpp;clear r_a q_a r_p q_p z_a z_p;obtain⟨r_a,q_a,-,-,r_p,q_p,-⟩:=HT.rules;have z_a:W1.heap.size<W2.heap.size:=(HT.in_ 0 rfl rfl).2;have z_p:w.heap.size<W2.heap.size:=(HT.in_ 2 rfl rfl).2;go_upto_region 4 with fail;clear r_a q_a r_p q_p z_a z_p;obtain⟨r_a,q_a,-,-,r_p,q_p,-⟩:=HT.rules;have z_a:W1.heap.size<W2.heap.size:=(HT.in_ 0 rfl rfl).2;have z_p:w.heap.size<W2.heap.size:=(HT.in_ 2 rfl rfl).2;refine av [.still [0,1,2,3,4,5],.loud 6 [0,1],.loud 7 [0,1],.loud 8 [],.still [9,10,11,12,13,14,15,16,17,18,19,20,21,22,23,24,25,26]] (by kernel_rfl) (by kernel_rfl) ?_;refine ps_ ?_;repeat still_step
    refine zH ?_;refine pl_ ?_;go_wp2_with fail;replace⟨HT,Hr,Hq,Ho,Hg,Hx⟩:=sp5 (HT.new' #[.slice Br regs.length cr,.slice Bb box.length cb] 52 W2.heap.size) Hr.s Hq.s Ho.s Hg.s Hx.s;replace hz:=HT.zz hz;clear r_a q_a r_p q_p z_a z_p;generalize (W2.alloc (.cells #[.slice Br regs.length cr,.slice Bb box.length cb] 52))=W7 at*;obtain⟨-,-,r_a,q_a,-,-,r_p,q_p,-⟩:=HT.rules;have z_a:W1.heap.size<W7.heap.size:=(HT.in_ 1 rfl rfl).2;have z_p:w.heap.size<W7.heap.size:=(HT.in_ 3 rfl rfl).2;obtain⟨lb,lc,y0⟩:=ou Hr.out HL.out;refine ag_ ?_;refine pl_ ?_;go_wp2_with fail;replace⟨HT,Hr,Hq,Ho,Hg,Hx⟩:=sp5 HT.drew' Hr.s Hq.s Ho.s Hg.s Hx.s;replace hz:=HT.zz hz;refine(pJ regs box (regs.length+box.length) W2.heap.size rfl W7.drew (HT.heap 0 rfl) (Hg.keep (by decide) (fun _ _ _=>⟨trivial,rfl⟩)) (Hx.keep (by decide) (fun _ _ _=>⟨trivial,rfl⟩)) (by rw[H8.out];omega)).mono ?_;rintro en W9 ⟨Ac,cc,rfl,hown,hb⟩;clear r_a q_a r_p q_p z_a z_p;clear y0;replace⟨HT,Hr,Hq,Ho,Hg,Hx⟩:=sp5 (HT.ownRow hb hown (m:=w.heap.size) (by omega)) Hr.s Hq.s Ho.s Hg.s Hx.s;replace hz:=Nat.le_trans hz hb.size;clear hb hown;obtain⟨-,-,r_a,q_a,-,-,r_p,q_p,-⟩:=HT.rules;have z_a:W1.heap.size<W9.heap.size:=(HT.in_ 2 rfl rfl).2;have z_p:w.heap.size<W9.heap.size:=(HT.in_ 4 rfl rfl).2;obtain⟨lb,lc,y0⟩:=ou Hr.out HL.out;go_wp2_with fail;refine ag_ ?_;refine pl_ ?_;go_wp2_with fail;have hcr:=HT.iM (E:=vE) (n:=0) 0 rfl rfl List.length_append.symm (gY (regs++box)) (by rw[List.length_append,H8.out];show(8+box.length)*16≤_;omega) (Nat.zero_le _) (by decide);rw[←List.length_append] at hcr;have G9:=dN most _ _ Bo Ac co cc os (regs++box) _ _ HC.out Ho.out hcr;rw[List.length_append] at G9;refine(G9).mono ?_;rintro en W8 ⟨rfl,hb⟩;clear r_a q_a r_p q_p z_a z_p;replace⟨HT,Hr,Hq,Ho,Hg,Hx⟩:=sp5 (HT.call hb) Hr.s Hq.s Ho.s Hg.s Hx.s;replace hz:=Nat.le_trans hz hb.size;clear hb;clear hcr G9 y0;obtain⟨-,-,r_a,q_a,-,-,r_p,q_p,-⟩:=HT.rules;have z_a:W1.heap.size<W8.heap.size:=(HT.in_ 2 rfl rfl).2;have z_p:w.heap.size<W8.heap.size:=(HT.in_ 4 rfl rfl).2;obtain⟨lb,lc,y0⟩:=ou Hr.out HL.out;go_wp2_with fail;refine⟨trivial,?_⟩;refine ps_ ?_;refine wpStill_step (fun K9 hK9=>?_);go_simp
    iterate 17 (generalize hA9:(Act.mk _ _)=a9;refine hK9 a9 ?_;clear hK9 K9;refine wpStill_step (fun K9 hK9=>?_);subst hA9;go_simp)
    generalize hA9:(Act.mk _ _)=a9;refine hK9 a9 ?_;subst hA9;refine zH ?_;refine zI ?_;go_wp2_with fail;go_ret
    exact⟨rfl,HT.below⟩
 have hok:=of_decide_eq_false hq2;have hpp:hpB ⟨most,os⟩ (regs++box)=true:=(by cases hpp:hpB ⟨most,os⟩ (regs++box);exact absurd (.inl hpp) hok;rfl);have p1:¬pc< -1:=(by omega);have p2:¬(l.length:Int)≤pc:=(by omega);have HC:=zG (lT hpp);clear hq2 hok hpp;clear r_a q_a r_p q_p z_a z_p;obtain⟨r_a,q_a,-,-,r_p,q_p,-⟩:=HT.rules;have z_a:W1.heap.size<W2.heap.size:=(HT.in_ 0 rfl rfl).2;have z_p:w.heap.size<W2.heap.size:=(HT.in_ 2 rfl rfl).2;go_upto_region 4 with fail;clear r_a q_a r_p q_p z_a z_p;obtain⟨r_a,q_a,-,-,r_p,q_p,-⟩:=HT.rules;have z_a:W1.heap.size<W2.heap.size:=(HT.in_ 0 rfl rfl).2;have z_p:w.heap.size<W2.heap.size:=(HT.in_ 2 rfl rfl).2;refine av [.still [0,1,2,3,4,5],.loud 6 [0,1],.loud 7 [0,1],.loud 8 [],.still [9,10,11,12,13,14,15,16,17,18,19,20,21,22,23,24,25,26]] (by kernel_rfl) (by kernel_rfl) ?_;refine ps_ ?_;repeat still_step
 refine zH ?_;refine pl_ ?_;go_wp2_with fail;replace⟨HT,Hr,Hq,Ho,Hg,Hx⟩:=sp5 (HT.new' #[.slice Br regs.length cr,.slice Bb box.length cb] 52 W2.heap.size) Hr.s Hq.s Ho.s Hg.s Hx.s;replace hz:=HT.zz hz;clear r_a q_a r_p q_p z_a z_p;generalize (W2.alloc (.cells #[.slice Br regs.length cr,.slice Bb box.length cb] 52))=W9 at*;obtain⟨-,-,r_a,q_a,-,-,r_p,q_p,-⟩:=HT.rules;have z_a:W1.heap.size<W9.heap.size:=(HT.in_ 1 rfl rfl).2;have z_p:w.heap.size<W9.heap.size:=(HT.in_ 3 rfl rfl).2;obtain⟨lb,lc,y0⟩:=ou Hr.out HL.out;refine ag_ ?_;refine pl_ ?_;go_wp2_with fail;replace⟨HT,Hr,Hq,Ho,Hg,Hx⟩:=sp5 HT.drew' Hr.s Hq.s Ho.s Hg.s Hx.s;replace hz:=HT.zz hz;refine(pJ regs box (regs.length+box.length) W2.heap.size rfl W9.drew (HT.heap 0 rfl) (Hg.keep (by decide) (fun _ _ _=>⟨trivial,rfl⟩)) (Hx.keep (by decide) (fun _ _ _=>⟨trivial,rfl⟩)) (by rw[H8.out];omega)).mono ?_;rintro en W9 ⟨Ac,cc,rfl,hown,hb⟩;clear r_a q_a r_p q_p z_a z_p;clear y0;replace⟨HT,Hr,Hq,Ho,Hg,Hx⟩:=sp5 (HT.ownRow hb hown (m:=w.heap.size) (by omega)) Hr.s Hq.s Ho.s Hg.s Hx.s;replace hz:=Nat.le_trans hz hb.size;clear hb hown;obtain⟨-,-,r_a,q_a,-,-,r_p,q_p,-⟩:=HT.rules;have z_a:W1.heap.size<W9.heap.size:=(HT.in_ 2 rfl rfl).2;have z_p:w.heap.size<W9.heap.size:=(HT.in_ 4 rfl rfl).2;obtain⟨lb,lc,y0⟩:=ou Hr.out HL.out;go_wp2_with fail;refine ag_ ?_;refine pl_ ?_;go_wp2_with fail;have hcr:=HT.iM (E:=vE) (n:=0) 0 rfl rfl List.length_append.symm (gY (regs++box)) (by rw[List.length_append,H8.out];show(8+box.length)*16≤_;omega) (Nat.zero_le _) (by decide);rw[←List.length_append] at hcr;have G9:=dN most _ _ Bo Ac co cc os (regs++box) _ _ HC.out Ho.out hcr;rw[List.length_append] at G9;refine(G9).mono ?_;rintro en W10 ⟨rfl,hb⟩;clear r_a q_a r_p q_p z_a z_p;replace⟨HT,Hr,Hq,Ho,Hg,Hx⟩:=sp5 (HT.call hb) Hr.s Hq.s Ho.s Hg.s Hx.s;replace hz:=Nat.le_trans hz hb.size;clear hb;clear hcr G9 y0;obtain⟨-,-,r_a,q_a,-,-,r_p,q_p,-⟩:=HT.rules;have z_a:W1.heap.size<W10.heap.size:=(HT.in_ 2 rfl rfl).2;have z_p:w.heap.size<W10.heap.size:=(HT.in_ 4 rfl rfl).2;obtain⟨lb,lc,y0⟩:=ou Hr.out HL.out;go_wp2_with fail;refine⟨trivial,?_⟩;refine ps_ ?_;repeat still_step
 refine zH ?_;refine zI ?_;(iterate 2 replace⟨HT,Hr,Hq,Ho,Hg,Hx⟩:=sp5 (nd0 (HT.drop 0)) Hr.s Hq.s Ho.s Hg.s Hx.s);clear y0;clear r_a q_a r_p q_p z_a z_p;obtain⟨r_a,q_a,-,-,r_p,q_p,-⟩:=HT.rules;have z_a:W1.heap.size<W10.heap.size:=(HT.in_ 0 rfl rfl).2;have z_p:w.heap.size<W10.heap.size:=(HT.in_ 2 rfl rfl).2;go_wp2_with fail;have hen:=fun (args:Array Value) (W:World)=>(enters_of Tryz.func105 (by kernel_rfl) rfl:Enters Tryz.prog 105) args W;have G4:=qN _ _ _ _ _ _ _ Hx.out (chk1_any W10) hen;rw[HQ3.out] at G4;clear hen;refine(G4).mono ?_;rintro en W11 ⟨rfl,hb⟩;clear r_a q_a r_p q_p z_a z_p;replace⟨HT,Hr,Hq,Ho,Hg,Hx⟩:=sp5 (HT.call hb) Hr.s Hq.s Ho.s Hg.s Hx.s;replace hz:=Nat.le_trans hz hb.size;clear hb;obtain⟨r_a,q_a,-,-,r_p,q_p,-⟩:=HT.rules;have z_a:W1.heap.size<W11.heap.size:=(HT.in_ 0 rfl rfl).2;have z_p:w.heap.size<W11.heap.size:=(HT.in_ 2 rfl rfl).2;clear G4
 cases q3
 rotate_left;focus
  go_wp2_with fail;go_ret
  exact⟨rfl,HT.below⟩
 go_upto_region 8 with fail;go_cut [8] from 9 to 109 (fun s9 w9=>s9= .bool q4∧w9=W11)
 case first=>
  by_cases hh0:box.length=0
  ·by_cases hh1:os.length=0
   ·by_cases hh2:pc= -1
    ·go_wp2_with fail;go_meet
     exact⟨congrArg Value.bool ((decide_eq_true (by omega)).symm.trans hq4),rfl⟩
    ·have e9:(pc==(-1:Int))=false:=(by simp only[beq_eq_false_iff_ne,ne_eq];omega);go_wp2_with fail;go_meet
     exact⟨congrArg Value.bool ((decide_eq_false (by omega)).symm.trans hq4),rfl⟩
   ·go_wp2_with fail;go_meet
    exact⟨congrArg Value.bool ((decide_eq_false (by omega)).symm.trans hq4),rfl⟩
  ·go_wp2_with fail;go_meet
   exact⟨congrArg Value.bool ((decide_eq_false (by omega)).symm.trans hq4),rfl⟩
 case rest=>
 obtain⟨rfl,hwc⟩:=hcut;rw[hwc];clear hwc;by_cases hf:fin=0
 ·subst hf;go_wp2_with fail;go_ret
  exact⟨rfl,HT.below⟩
 ·have ef:(fin==0)=false:=(by simpa using hf);go_wp2_with fail;go_ret
  exact⟨by rw[ef];rfl,HT.below⟩
end
section
open Go.RowKit
theorem tdB_split {n:Nat} {t:Td}:tdB n t= !decide (t.cK<0∨(n:Int)≤t.cK∨t.n< -1099511627776∨1099511627776<t.n):=by
 unfold tdB;rw[Bool.eq_iff_iff];simp only[Bool.and_eq_true,decide_eq_true_eq,Bool.not_eq_true',decide_eq_false_iff_not];omega
def okW (ps:List (List Ins)) (acs:List Ac) (ts:List Td) (q:Bool):Prop:=q=false∧(∀(j:Nat) (a:Ac),acs[j]?=some a→acB ps j a=true)∧(∀(j:Nat) (t:Td),ts[j]?=some t→tdB acs.length t=true)
theorem worldE_split {ps:List (List Ins)} {acs:List Ac} {ts:List Td} {v1 v2 v3:Int} (hv:jf ps=(v1,v2,v3)):
  (v3≠0→worldE ps ⟨acs,ts⟩=v3)∧(v3=0→okW ps acs ts (decide (acs.length=0∨8<acs.length∨500<ts.length))→worldE ps ⟨acs,ts⟩=0)∧(v3=0→¬okW ps acs ts (decide (acs.length=0∨8<acs.length∨500<ts.length))→worldE ps ⟨acs,ts⟩=8):=by
 have h:wdB ps ⟨acs,ts⟩=true↔okW ps acs ts (decide (acs.length=0∨8<acs.length∨500<ts.length)):=by
  unfold okW;rw[wdB_iff,decide_eq_false_iff_not];constructor
  ·intro h;have h1:1≤acs.length:=h.one;have h2:acs.length≤8:=h.few;have h3:ts.length≤500:=h.told;exact⟨by omega,fun j a ha=>acB_iff.2 (h.acs j a ha),fun j t ht=>h.tds t (zF ht)⟩
  ·rintro⟨h1,h2,h3⟩;exact⟨by show 1≤acs.length;omega,by show acs.length≤8;omega,by show ts.length≤500;omega,fun j a ha=>acB_iff.1 (h2 j a ha),fun t ht=>by
    obtain⟨j,hj⟩:=List.getElem?_of_mem ht;exact h3 j t hj⟩
 unfold worldE;rw[hv];refine⟨fun h3=>if_pos h3,fun h3 hg=>?_,fun h3 hg=>?_⟩
 ·rw[if_neg (by simpa using h3),if_pos (h.2 hg)]
 ·rw[if_neg (by simpa using h3),if_neg (fun hw=>hg (h.1 hw))]
set_option maxRecDepth 100000 in
set_option maxHeartbeats 8000000 in
theorem checkW_any (S T U:Nat→Prop) (Ap:Option Addr) (cp:Nat) (ps:List (List Ins)) (A:Option Addr) (c:Nat) (acs:List Ac) (Bp:Option Addr) (d:Nat) (ts:List Td) (w:World) (hu:dV w) (hr:aj pgE w S (.slice Ap ps.length cp) ps) (hq:aj acE w T (.slice A acs.length c) acs) (ht:aj tdE w U (.slice Bp ts.length d) ts):
  Calls Tryz.prog 36 #[.agg #[.slice Ap ps.length cp],.agg #[.slice A acs.length c,.slice Bp ts.length d]] w fun e w'=>e= .returned (.int .i64 (worldE ps ⟨acs,ts⟩))∧Below w.heap.size w w':=by
 obtain⟨-,l1,l2,-⟩:=hr.fw;obtain⟨-,l3,l4,l5⟩:=hq.fw;obtain⟨-,l6,l7,l8⟩:=ht.fw;have Hu:=zG hu;have Hr:=zG hr;have Hq:=zG hq;have Ht:=zG ht;clear hr hq ht hu;obtain⟨v1,v2,v3,hv⟩:∃v1 v2 v3,jf ps=(v1,v2,v3):=⟨_,_,_,rfl⟩;obtain⟨q,hq⟩:∃q,decide (acs.length=0∨8<acs.length∨500<ts.length)=q:=⟨_,rfl⟩;have hE:=worldE_split (acs:=acs) (ts:=ts) hv;rw[hq] at hE;have HE:=zG hE;have HV:=zG hv;clear hE hv;have T0:St w.heap.size w (((w.alloc (.cells #[.slice Ap ps.length cp] 24)).alloc (.cells #[.slice A acs.length c,.slice Bp ts.length d] 29))) [.blk (w.heap.size+1) #[.slice A acs.length c,.slice Bp ts.length d] 29,.blk w.heap.size #[.slice Ap ps.length cp] 24]:=((((St.start w (Nat.le_refl _)).new' #[.slice Ap ps.length cp] 24 (w.heap.size) (by simp)).1).new' #[.slice A acs.length c,.slice Bp ts.length d] 29 (w.heap.size+1) (by simp)).1;have HT:=zG T0;have hz:w.heap.size+1+1≤((w.alloc (.cells #[.slice Ap ps.length cp] 24)).alloc (.cells #[.slice A acs.length c,.slice Bp ts.length d] 29)).heap.size:=(by simp);clear T0;replace Hr:Hid (aj pgE (((w.alloc (.cells #[.slice Ap ps.length cp] 24)).alloc (.cells #[.slice A acs.length c,.slice Bp ts.length d] 29))) (Fr 0 [.blk (w.heap.size+1) #[.slice A acs.length c,.slice Bp ts.length d] 29,.blk w.heap.size #[.slice Ap ps.length cp] 24]) (.slice Ap ps.length cp) ps):=zG (aj.pool (E:=pgE) Hr.out (by show 0<1;omega) HT.out);replace Hq:Hid (aj acE (((w.alloc (.cells #[.slice Ap ps.length cp] 24)).alloc (.cells #[.slice A acs.length c,.slice Bp ts.length d] 29))) (Fr 0 [.blk (w.heap.size+1) #[.slice A acs.length c,.slice Bp ts.length d] 29,.blk w.heap.size #[.slice Ap ps.length cp] 24]) (.slice A acs.length c) acs):=zG (aj.pool (E:=acE) Hq.out (by decide) HT.out);replace Ht:Hid (aj tdE (((w.alloc (.cells #[.slice Ap ps.length cp] 24)).alloc (.cells #[.slice A acs.length c,.slice Bp ts.length d] 29))) (Fr 0 [.blk (w.heap.size+1) #[.slice A acs.length c,.slice Bp ts.length d] 29,.blk w.heap.size #[.slice Ap ps.length cp] 24]) (.slice Bp ts.length d) ts):=zG (aj.pool (E:=tdE) Ht.out (by decide) HT.out);go_enter Tryz.func36,Tryz.ntmps36
 go_upto_region 1 with fail;generalize ((w.alloc (.cells #[.slice Ap ps.length cp] 24)).alloc (.cells #[.slice A acs.length c,.slice Bp ts.length d] 29))=W1 at*;have h_:=HT.rz 2;go_wp2_with fail;have G9:=lH _ Ap cp ps _ (Hu.below HT.below) Hr.out;rw[HV.out] at G9;refine(G9).mono ?_;rintro en W2 ⟨rfl,hb⟩;clear h_;replace⟨HT,Hr,Hq,Ht⟩:=sp3 (HT.call hb) Hr.s Hq.s Ht.s;replace hz:=Nat.le_trans hz hb.size;clear hb;have h_:=HT.rz 2;clear G9;by_cases h3:v3=0
 ·subst h3;go_upto_region 4 with fail;go_cut [35] from 9 to 75 (fun s9 w9=>s9= .bool q∧w9=W2)
  case first=>
   by_cases hh0:acs.length=0
   ·have e0:((acs.length:Int)==0)=true:=(by simp only[beq_iff_eq];omega);go_wp2_with fail;go_meet
    exact⟨congrArg Value.bool ((decide_eq_true (by omega)).symm.trans hq),rfl⟩
   ·have e0:((acs.length:Int)==0)=false:=(by simp only[beq_eq_false_iff_ne,ne_eq];omega);by_cases hh1:8<acs.length
    ·have e1:(8:Int)<(acs.length:Int):=(by omega);go_wp2_with fail;go_meet
     exact⟨congrArg Value.bool ((decide_eq_true (by omega)).symm.trans hq),rfl⟩
    ·have e1:¬(8:Int)<(acs.length:Int):=(by omega);by_cases hh2:500<ts.length
     ·have e2:(500:Int)<(ts.length:Int):=(by omega);go_wp2_with fail;go_meet
      exact⟨congrArg Value.bool ((decide_eq_true (by omega)).symm.trans hq),rfl⟩
     ·have e2:¬(500:Int)<(ts.length:Int):=(by omega);go_wp2_with fail;go_meet
      exact⟨congrArg Value.bool ((decide_eq_false (by omega)).symm.trans hq),rfl⟩
  case rest=>
  obtain⟨rfl,hwc⟩:=hcut;rw[hwc];clear hwc
  cases q
  rotate_left;focus
   go_wp2_with fail;go_ret
   exact⟨by rw[HE.out.2.2 (by simp) (fun h=>by cases h.1)];rfl,HT.below⟩
  have hc:=of_decide_eq_false hq;have hm1:acs.length≤8:=(by omega);have hm2:ts.length≤500:=(by omega);clear hq hc;clear h_;have h_:=HT.rz 2;go_wp2_with fail;go_loopw [39] (fun i wl3=>∃k:Nat,(fun R9:List Res=>i= .int .i64 k∧k≤acs.length∧(∀(j:Nat) a,j<k→acs[j]?=some a→acB ps j a=true)∧St w.heap.size w wl3 R9∧aj pgE wl3 (Fr 0 R9) (.slice Ap ps.length cp) ps∧aj acE wl3 (Fr 0 R9) (.slice A acs.length c) acs∧aj tdE wl3 (Fr 0 R9) (.slice Bp ts.length d) ts∧w.heap.size+1+1≤wl3.heap.size) [.blk (w.heap.size+1) #[.slice A acs.length c,.slice Bp ts.length d] 29,.blk w.heap.size #[.slice Ap ps.length cp] 24]) (fun i _=>acs.length - (intOf i).toNat)
  case atStart=>
   refine⟨0,?_,?_,?_,HT.out,Hr.out,Hq.out,Ht.out,hz⟩
   ·rfl
   ·exact Nat.zero_le _
   ·exact fun j a h=>absurd h (by omega)
  case round=>
   generalize wr=wl3 at*;clear HT Hr Hq Ht hz;obtain⟨k,rfl,hk,hok,ht,pHr,pHq,pHt,hz⟩:=hrel;have HT:=zG ht;have Hr:Hid (aj pgE wl3 (Fr 0 [.blk (w.heap.size+1) #[.slice A acs.length c,.slice Bp ts.length d] 29,.blk w.heap.size #[.slice Ap ps.length cp] 24]) (.slice Ap ps.length cp) ps):=zG pHr;have Hq:Hid (aj acE wl3 (Fr 0 [.blk (w.heap.size+1) #[.slice A acs.length c,.slice Bp ts.length d] 29,.blk w.heap.size #[.slice Ap ps.length cp] 24]) (.slice A acs.length c) acs):=zG pHq;have Ht:Hid (aj tdE wl3 (Fr 0 [.blk (w.heap.size+1) #[.slice A acs.length c,.slice Bp ts.length d] 29,.blk w.heap.size #[.slice Ap ps.length cp] 24]) (.slice Bp ts.length d) ts):=zG pHt;clear ht pHr pHq pHt;have Hk:=zG hok;clear hok;have h_:=HT.rz 2;by_cases hlt:k<acs.length
   ·obtain⟨a,ha⟩:∃a,acs[k]?=some a:=⟨_,zD hlt⟩;have i2:(k:Int)<(acs.length:Int):=(by omega);have HA:=zG ha;clear ha;go_wp2_with fail;have G9:=chkActor_any _ _ Ap cp ps A c acs Bp ts.length d k a HA.out wl3 Hr.out Hq.out;obtain⟨z,hz9⟩:∃z,acB ps k a=z:=⟨_,rfl⟩;rw[hz9] at G9;have HZ:=zG hz9;clear hz9;refine(G9).mono ?_;rintro en W4 ⟨rfl,hb⟩;clear h_;replace⟨HT,Hr,Hq,Ht⟩:=sp3 (HT.call hb) Hr.s Hq.s Ht.s;replace hz:=Nat.le_trans hz hb.size;clear hb;have h_:=HT.rz 2;clear G9
    cases z
    ·go_wp2_with fail;go_ret
     exact⟨by rw[HE.out.2.2 (by simp) (fun h=>by have:=h.2.1 k a HA.out;rw[HZ.out] at this;cases this)];rfl,HT.below⟩
    ·have HN:Hid (∀(j:Nat) a,j<k+1→acs[j]?=some a→acB ps j a=true):=zG (fun j b hj hb=>by
      by_cases hjk:j=k
      ·subst hjk;rw[HA.out] at hb;injection hb with hb;rw[←hb];exact HZ.out
      ·exact Hk.out j b (by omega) hb)
     go_wp2_with fail;clear h_;go_roundw
     case rel=>
      refine⟨k+1,?_,?_,HN.out,HT.out,Hr.out,Hq.out,Ht.out,hz⟩
      ·go_num
      ·omega
     case measure=>simp[intOf];omega
   ·have i2:¬(k:Int)<(acs.length:Int):=(by omega);have HK:Hid (∀(j:Nat) a,acs[j]?=some a→acB ps j a=true):=zG (fun j b hb=>Hk.out j b (by have:=(zE.1 hb).1;omega) hb);clear Hk;go_wp2_with fail;go_loopw [51] (fun i wl5=>∃m:Nat,(fun R9:List Res=>i= .int .i64 m∧m≤ts.length∧(∀(j:Nat) t,j<m→ts[j]?=some t→tdB acs.length t=true)∧St w.heap.size w wl5 R9∧aj pgE wl5 (Fr 0 R9) (.slice Ap ps.length cp) ps∧aj acE wl5 (Fr 0 R9) (.slice A acs.length c) acs∧aj tdE wl5 (Fr 0 R9) (.slice Bp ts.length d) ts∧w.heap.size+1+1≤wl5.heap.size) [.blk (w.heap.size+1) #[.slice A acs.length c,.slice Bp ts.length d] 29,.blk w.heap.size #[.slice Ap ps.length cp] 24]) (fun i _=>ts.length - (intOf i).toNat)
    case atStart=>
     refine⟨0,?_,?_,?_,HT.out,Hr.out,Hq.out,Ht.out,hz⟩
     ·rfl
     ·exact Nat.zero_le _
     ·exact fun j t h=>absurd h (by omega)
    case round=>
     generalize wr=wl5 at*;clear HT Hr Hq Ht hz;obtain⟨m,rfl,hm,hok,ht,pHr,pHq,pHt,hz⟩:=hrel;have HT:=zG ht;have Hr:Hid (aj pgE wl5 (Fr 0 [.blk (w.heap.size+1) #[.slice A acs.length c,.slice Bp ts.length d] 29,.blk w.heap.size #[.slice Ap ps.length cp] 24]) (.slice Ap ps.length cp) ps):=zG pHr;have Hq:Hid (aj acE wl5 (Fr 0 [.blk (w.heap.size+1) #[.slice A acs.length c,.slice Bp ts.length d] 29,.blk w.heap.size #[.slice Ap ps.length cp] 24]) (.slice A acs.length c) acs):=zG pHq;have Ht:Hid (aj tdE wl5 (Fr 0 [.blk (w.heap.size+1) #[.slice A acs.length c,.slice Bp ts.length d] 29,.blk w.heap.size #[.slice Ap ps.length cp] 24]) (.slice Bp ts.length d) ts):=zG pHt;clear ht pHr pHq pHt;have Hm:=zG hok;clear hok;have h_:=HT.rz 2;by_cases hmt:m<ts.length
     ·obtain⟨x,hx⟩:∃x,ts[m]?=some x:=⟨_,zD hmt⟩;obtain⟨tb,tof,rfl,-,-,y0,y1⟩:=Ht.at_t hx;have HX:=zG hx;have i3:(m:Int)<(ts.length:Int):=(by omega);clear hx;clear h_;have h_:=HT.rz 2;go_upto_region 15 with fail;clear y0 y1;replace⟨HT,Hr,Hq,Ht⟩:=sp3 (HT.new' #[.int .i64 x.cK,.int .i64 x.n] 73 wl5.heap.size) Hr.s Hq.s Ht.s;replace hz:=HT.zz hz;clear h_;generalize (wl5.alloc (.cells #[.int .i64 x.cK,.int .i64 x.n] 73))=W6 at*;have h_:=HT.rz 2;obtain⟨z,hz9⟩:∃z,decide (x.cK<0∨(acs.length:Int)≤x.cK∨x.n< -1099511627776∨1099511627776<x.n)=z:=⟨_,rfl⟩;have hzz:=hz9;go_cut [75] from 52 to 75 (fun s9 w9=>s9= .bool z∧w9=W6)
      case first=>
       by_cases hh0:x.cK<0
       ·go_wp2_with fail;go_meet
        exact⟨congrArg Value.bool ((decide_eq_true (by omega)).symm.trans hzz),rfl⟩
       ·by_cases hh1:(acs.length:Int)≤x.cK
        ·go_wp2_with fail;go_meet
         exact⟨congrArg Value.bool ((decide_eq_true (by omega)).symm.trans hzz),rfl⟩
        ·by_cases hh2:x.n< -1099511627776
         ·go_wp2_with fail;go_meet
          exact⟨congrArg Value.bool ((decide_eq_true (by omega)).symm.trans hzz),rfl⟩
         ·by_cases hh3:1099511627776<x.n
          ·go_wp2_with fail;go_meet
           exact⟨congrArg Value.bool ((decide_eq_true (by omega)).symm.trans hzz),rfl⟩
          ·go_wp2_with fail;go_meet
           exact⟨congrArg Value.bool ((decide_eq_false (by omega)).symm.trans hzz),rfl⟩
      case rest=>
      obtain⟨rfl,hwc⟩:=hcut;rw[hwc];clear hwc;have hT:tdB acs.length x= !z:=(by rw[←hzz];exact tdB_split);have HT9:=zG hT;clear hT hzz hz9
      cases z
      ·have HN:Hid (∀(j:Nat) t,j<m+1→ts[j]?=some t→tdB acs.length t=true):=zG (fun j b hj hb=>by
        by_cases hjk:j=m
        ·subst hjk;rw[HX.out] at hb;injection hb with hb;rw[←hb];exact HT9.out
        ·exact Hm.out j b (by omega) hb)
       clear h_;replace⟨HT,Hr,Hq,Ht⟩:=sp3 (nd0 (HT.drop 0)) Hr.s Hq.s Ht.s;have h_:=HT.rz 2;go_wp2_with fail;clear h_;go_roundw
       case rel=>
        refine⟨m+1,?_,?_,HN.out,HT.out,Hr.out,Hq.out,Ht.out,hz⟩
        ·go_num
        ·omega
       case measure=>simp[intOf];omega
      ·go_wp2_with fail;go_ret
       exact⟨by rw[HE.out.2.2 (by simp) (fun h=>by have:=h.2.2 m x HX.out;rw[HT9.out] at this;cases this)];rfl,HT.below⟩
     ·have i4:¬(m:Int)<(ts.length:Int):=(by omega);go_wp2_with fail;go_ret
      exact⟨by rw[HE.out.2.1 (by simp) ⟨rfl,HK.out,fun j t hj=>Hm.out j t (by have:=(zE.1 hj).1;omega) hj⟩];rfl,HT.below⟩
 ·have e3:(v3 !=0)=true:=(by simpa using h3);go_wp2_with fail;go_ret
  exact⟨by rw[HE.out.1 h3];rfl,HT.below⟩
end
end
section
open Go.RowKit
theorem cloneHr_any (m:Int) (S:Nat→Prop) (A:Option Addr) (c:Nat) (os:List Ob) (w:World) (hr:aj obE w S (.slice A os.length c) os):
  Calls Tryz.prog 75 #[.agg #[.int .i64 m,.slice A os.length c]] w fun e w'=>∃A' c',e= .returned (.agg #[.int .i64 m,.slice A' os.length c'])∧aj obE w' (fun b=>w.heap.size≤b) (.slice A' os.length c') os∧Below w.heap.size w w':=by
 refine(lU m S A c os w hr).mono ?_;rintro e w' ⟨v,vs,rfl,hsep,hs,hb⟩;obtain⟨A2,c2,rfl⟩:=bZ hsep.row;exact⟨A2,c2,rfl,hsep.rd hs,hb⟩
theorem held_tcs {w:World} {S:Nat→Prop} {css:List (List Value)} {xs:List Td} (h:Held tdE w S css xs):css=tcs xs:=by
 apply List.ext_getElem?
 intro i;rcases Nat.lt_or_ge i xs.length with hl|hg
 ·have hx:xs[i]?=some xs[i]:=zD hl;have hc:css[i]?=some (css[i]'(by rw[h.len];exact hl)):=zD _;have hr:css[i]'(by rw[h.len];exact hl)= [.int .i64 (xs[i]).cK,.int .i64 (xs[i]).n]:=(h.each i _ _ hx hc).2;rw[hc,hr,tcs,List.getElem?_map,hx];rfl
 ·rw[List.getElem?_eq_none (by rw[h.len];exact hg),List.getElem?_eq_none (by simpa[tcs] using hg)]
theorem cloneTr_any (S:Nat→Prop) (A:Option Addr) (c:Nat) (xs:List Td) (w:World) (hr:aj tdE w S (.slice A xs.length c) xs):
  Calls Tryz.prog 74 #[.slice A xs.length c] w fun e w'=>∃A' c',e= .returned (.slice A' xs.length c')∧w'.ownsRow w.heap.size 73 2 (.slice A' xs.length c') xs.length (cat (tcs xs))∧Below w.heap.size w w':=by
 refine(cloneT_any S A c xs w hr).mono ?_;rintro en w' ⟨v,rfl,⟨css,hH,hown,-⟩,hb⟩;obtain rfl:=held_tcs hH;obtain⟨A',c',rfl⟩:=bZ hown;exact⟨A',c',rfl,hown,hb⟩
theorem infoAc9:(Tryz.prog.info? 54).map (fun i=>(i.zero,i.size,i.bytes))=some (some (.agg #[.int .i64 0,.int .i64 0,.int .i64 0,.slice none 0 0,.slice none 0 0,.int .i64 0,.slice none 0 0,.int .i64 0]),8,112):=by kernel_rfl
def lay0 (pA:Option Addr) (pc:Nat):Lay:=⟨0,none,0,0,0,pA,pc,fun _=>none,fun _=>0,fun _=>0,fun _=>0,fun _=>none,fun _=>0⟩
def Lay.join (L:Lay) (n:Nat) (A:Option Addr) (oc gr rc:Nat) (Bb:Option Addr) (bc:Nat):Lay:=
 {L with oA:=upd L.oA n A,oc:=upd L.oc n oc,rg:=upd L.rg n gr,rc:=upd L.rc n rc,bA:=upd L.bA n Bb,bc:=upd L.bc n bc}
section
variable {B:Nat} {w0 w w':World} {R:List Res} {W W':Wd} {L:Lay} {n oc gr rc bc:Nat} {A Bb:Option Addr} {x:Ac} {ts:List Td}
theorem St.stage0 {pA:Option Addr} {pc:Nat} (h:St B w0 w (.row 0 73 2 (.slice pA ts.length pc) ts.length (cat (tcs ts))::R)):
  St B w0 w (stR false 0 ⟨[],ts⟩ (lay0 pA pc) [.acts]::R)∧au w (.row 0 73 2 (.slice pA ts.length pc) ts.length (cat (tcs ts))::R) w (stR false 0 ⟨[],ts⟩ (lay0 pA pc) [.acts]::R):=by
 have e:∀k b,((lay0 pA pc).own false 0 ⟨[],ts⟩ [.acts] k).foot b→k= .prints∧(Res.row 0 73 2 (.slice pA ts.length pc) ts.length (cat (tcs ts))).foot b:=fun k b hb=>by
  cases k with
  |head=>rw[bS (by simp)] at hb;exact hb.elim
  |acts=>rw[lF (by simp)] at hb;exact hb.elim
  |prints=>rw[bS (by simp)] at hb;exact⟨rfl,hb⟩
  |regs i=>rw[bS (by simp)] at hb;exact hb.elim
  |box i=>rw[bS (by simp)] at hb;exact hb.elim
 refine h.turn (w':=w) 0 rfl (stR false 0 ⟨[],ts⟩ (lay0 pA pc) [.acts]) (Nat.le_refl _) rfl rfl rfl (fun _ _ _=>rfl) ⟨fun k=>?_,fun k k' hne b h1 h2=>?_,fun a ha=>by cases ha⟩ (fun b ⟨k,hb⟩=> .inl (e k b hb).2)
 ·cases k with
  |head=>rw[bS (by simp)];trivial
  |acts=>rw[lF (by simp)];trivial
  |prints=>rw[bS (by simp)];exact h.at_ 0 rfl
  |regs i=>rw[bS (by simp)];trivial
  |box i=>rw[bS (by simp)];trivial
 ·exact hne ((e k b h1).1.trans (e k' b h2).1.symm)
theorem join_new (hn:W.aa.length=n) (hW:W'=W.more x):W'.aa[n]?=some x:=by subst hn hW;exact more_new
theorem St.join (h:St B w0 w (.row 0 88 2 (.slice (some ⟨gr,0,none⟩) 8 rc) 8 (cat (vcs x.regs)):: .row 0 88 2 (.slice Bb x.box.length bc) x.box.length (cat (vcs x.box))::stR false 0 W L [.acts]::R)) (h8:x.regs.length=8) (hn:W.aa.length=n) (hW:W'=W.more x):
  St B w0 w (stR false 0 W' (L.join n A oc gr rc Bb bc) [.acts]::R)∧au w (.row 0 88 2 (.slice (some ⟨gr,0,none⟩) 8 rc) 8 (cat (vcs x.regs)):: .row 0 88 2 (.slice Bb x.box.length bc) x.box.length (cat (vcs x.box))::stR false 0 W L [.acts]::R) w (stR false 0 W' (L.join n A oc gr rc Bb bc) [.acts]::R):=by
 have hnew:=join_new hn hW;subst hn hW;have hS:aW false 0 W L [.acts] w:=h.at_ 2 rfl;obtain⟨h1,k1⟩:=h.reshape (L':=L.join W.aa.length A oc gr rc Bb bc) (W':=W.more x) (X':=[.regs W.aa.length,.box W.aa.length,.acts]) 2 rfl (fun k=>by
  by_cases hx:k∈[Key.regs W.aa.length,.box W.aa.length,.acts]
  ·rw[lF hx];simp only[List.mem_cons,List.mem_nil_iff,or_false] at hx;rcases hx with rfl|rfl|rfl
   ·rw[bS (by simp)];simp[Lay.bR]
   ·rw[bS (by simp)];simp[Lay.bR]
   ·rw[lF (by simp)]
  ·rw[bS hx];simp only[List.mem_cons,List.mem_nil_iff,or_false,not_or] at hx;rw[bS (by simpa using hx.2.2)]
   cases k with
   |head=>rfl
   |acts=>exact absurd rfl hx.2.2
   |prints=>rfl
   |regs m=>
    have hm:m≠W.aa.length:=fun e=>hx.1 (by rw[e]);simp[Lay.bR,more_old hm,kM,Lay.join,upd_ne _ _ hm]
   |box m=>
    have hm:m≠W.aa.length:=fun e=>hx.2.1 (by rw[e]);simp[Lay.bR,more_old hm,iy,Lay.join,upd_ne _ _ hm]) (fun y hy=>by
  rcases List.mem_append.1 hy with hy|hy
  ·exact hS.regs y hy
  ·simp at hy;rw[hy];exact h8)
 have p1:(.row 0 88 2 (.slice (some ⟨gr,0,none⟩) 8 rc) 8 (cat (vcs x.regs)):Res)=(L.join W.aa.length A oc gr rc Bb bc).bR false 0 (W.more x) (.regs W.aa.length):=by
  simp only[Lay.bR,hnew];simp[kM,Lay.join,fQ]
 have p2:(.row 0 88 2 (.slice Bb x.box.length bc) x.box.length (cat (vcs x.box)):Res)=(L.join W.aa.length A oc gr rc Bb bc).bR false 0 (W.more x) (.box W.aa.length):=by
  simp only[Lay.bR,hnew];simp[iy,Lay.join,fQ]
 obtain⟨h2,k2⟩:=h1.plug 1 rfl p1 (by simp);obtain⟨h3,k3⟩:=h2.plug 0 rfl p2 (by simp);exact⟨h3,(k1.trans (Nat.le_refl _) k2).trans (Nat.le_refl _) k3⟩
theorem acRows_join {l:List Ac} (hn:l.length=n):dP L l++[kI x (.slice A x.heap.ah.length oc) (.slice (some ⟨gr,0,none⟩) 8 rc) (.slice Bb x.box.length bc)]=dP (L.join n A oc gr rc Bb bc) (l++[x]):=by
 subst hn;unfold dP;rw[List.mapIdx_append];congr 1
 ·apply List.ext_getElem?
  intro i;simp only[List.getElem?_mapIdx]
  cases hx:l[i]? with
  |none=>rfl
  |some y=>
   have hi:i≠l.length:=(by have:=(zE.1 hx).1;omega);simp[iH,Lay.join,upd_ne _ _ hi]
 ·simp[iH,Lay.join,fQ]
theorem aA.join {S:Nat→Prop} (h:aA w S W L) (hn:W.aa.length=n) (hW:W'=W.more x) (hr:aj obE w S (.slice A x.heap.ah.length oc) x.heap.ah):aA w S W' (L.join n A oc gr rc Bb bc):=fun i y hy=>by
 subst hn hW;by_cases hi:i=W.aa.length
 ·subst hi;rw[more_new] at hy;injection hy with hy
  subst hy;simpa[Lay.join,fQ] using hr
 ·rw[more_old hi] at hy;simpa[Lay.join,upd_ne _ _ hi] using h i y hy
theorem St.withActs {g c:Nat} (h:St B w0 w (.row 0 54 8 (.slice (some ⟨g,0,none⟩) W.aa.length c) W.aa.length (cat (dP L W.aa))::stR false 0 W L [.acts]::R)):
  St B w0 w (stR false 0 W {L with g:=g,gc:=c} []::R)∧au w (.row 0 54 8 (.slice (some ⟨g,0,none⟩) W.aa.length c) W.aa.length (cat (dP L W.aa))::stR false 0 W L [.acts]::R) w (stR false 0 W {L with g:=g,gc:=c} []::R):=by
 have hS:aW false 0 W L [.acts] w:=h.at_ 1 rfl;obtain⟨h1,k1⟩:=h.reshape (L':={L with g:=g,gc:=c}) (W':=W) (X':=[.acts]) 1 rfl (fun k=>by
  cases k with
  |acts=>rw[lF (by simp),lF (by simp)]
  |head=>rw[bS (by simp),bS (by simp)];rfl
  |prints=>rw[bS (by simp),bS (by simp)];rfl
  |regs i=>rw[bS (by simp),bS (by simp)];rfl
  |box i=>rw[bS (by simp),bS (by simp)];rfl) hS.regs
 obtain⟨h2,k2⟩:=h1.plug 0 rfl rfl (by simp);exact⟨h2,k1.trans (Nat.le_refl _) k2⟩
end
def CopiedS (w:World) (W:Wd) (en:Ending) (w':World):Prop:=
 ∃L:Lay,en= .returned (.agg #[.slice (some ⟨L.g,0,none⟩) W.aa.length L.gc,.slice L.pA W.prints.length L.pc])∧St w.heap.size w w' [stR false 0 W L []]∧aA w' (Fr w.heap.size [stR false 0 W L []]) W L
set_option maxRecDepth 100000 in
set_option maxHeartbeats 8000000 in
theorem copyS_any (S T:Nat→Prop) (A B:Option Addr) (c d:Nat) (acs:List Ac) (ps:List Td) (w:World) (hr:aj acE w S (.slice A acs.length c) acs) (hq:aj tdE w T (.slice B ps.length d) ps) (h8:∀a∈acs,a.regs.length=8) (hpos:0<acs.length):
  Calls Tryz.prog 37 #[.agg #[.slice A acs.length c,.slice B ps.length d]] w (CopiedS w ⟨acs,ps⟩):=by
 obtain⟨-,u1,u2,u3⟩:=hr.fw;have H3:acs.length*112≤140737488355328:=u3;have Hr:=zG hr;have Hq:=zG hq;have H8:=zG h8;clear hr hq u3 h8;have T0:St w.heap.size w (((w.alloc (.cells #[.slice A acs.length c,.slice B ps.length d] 29)).alloc (.cells #[.slice none 0 0,.slice none 0 0] 29))) [.blk (w.heap.size+1) #[.slice none 0 0,.slice none 0 0] 29,.blk w.heap.size #[.slice A acs.length c,.slice B ps.length d] 29]:=((((St.start w (Nat.le_refl _)).new' #[.slice A acs.length c,.slice B ps.length d] 29 (w.heap.size) (by simp)).1).new' #[.slice none 0 0,.slice none 0 0] 29 (w.heap.size+1) (by simp)).1;have HT:=zG T0;have hz:w.heap.size+1+1≤((w.alloc (.cells #[.slice A acs.length c,.slice B ps.length d] 29)).alloc (.cells #[.slice none 0 0,.slice none 0 0] 29)).heap.size:=(by simp);replace Hr:=zG (Hr.pool (by decide) T0);replace Hq:=zG (Hq.pool (by decide) T0);clear T0;go_enter Tryz.func37,Tryz.ntmps37
 go_upto_region 1 with fail;generalize ((w.alloc (.cells #[.slice A acs.length c,.slice B ps.length d] 29)).alloc (.cells #[.slice none 0 0,.slice none 0 0] 29))=W1 at*;have h_:=HT.rz 2;go_wp2_with fail;refine(cloneTr_any _ B d ps _ Hq.out).mono ?_;rintro en W2 ⟨B1,d1,rfl,hown,hb⟩;clear h_;replace⟨HT,Hr,Hq⟩:=sp2 (HT.ownRow hb hown (m:=0) (Nat.zero_le _)) Hr.s Hq.s;replace hz:=Nat.le_trans hz hb.size;clear hb hown;clear Hq;have h_:=HT.rz 2;go_wp2_with fail;replace⟨HT,Hr⟩:=sp1 (HT.new' #[.slice none 0 0,.slice B1 ps.length d1] 29 W2.heap.size) Hr.s;replace hz:=HT.zz hz;clear h_;generalize (W2.alloc (.cells #[.slice none 0 0,.slice B1 ps.length d1] 29))=W3 at*;replace⟨HT,Hr⟩:=sp1 (nd3 (HT.drop 3)) Hr.s;replace⟨HT,Hr⟩:=sp1 (HT.perm (.swap _ _ _)) Hr.s;replace⟨HT,Hr⟩:=sw1 W3 [stR false 0 ⟨[],ps⟩ (lay0 B1 d1) [.acts],.blk W2.heap.size #[.slice none 0 0,.slice B1 ps.length d1] 29,.blk (w.heap.size+1) #[.slice none 0 0,.slice none 0 0] 29] HT.stage0 Hr.s;replace⟨HT,Hr⟩:=sp1 (HT.kg 0 54 8) Hr.s;have hh0:aA W3 (Fr w.heap.size [.row 0 54 8 (.slice none 0 0) 0 (cat []),stR false 0 ⟨[],ps⟩ (lay0 B1 d1) [.acts],.blk W2.heap.size #[.slice none 0 0,.slice B1 ps.length d1] 29,.blk (w.heap.size+1) #[.slice none 0 0,.slice none 0 0] 29]) ⟨[],ps⟩ (lay0 B1 d1):=fun i a h=>by cases h
 have HH:=zG hh0;clear hh0;go_loopw [13] (fun i wl4=>∃(k:Nat) (L:Lay) (v:Value),(fun R9:List Res=>i= .int .i64 k∧k≤acs.length∧L.pA=B1∧L.pc=d1∧St w.heap.size w wl4 R9∧aj acE wl4 (Fr 0 R9) (.slice A acs.length c) acs∧aA wl4 (Fr w.heap.size R9) ⟨acs.take k,ps⟩ L∧w.heap.size+1+1≤wl4.heap.size) [.row 0 54 8 v k (cat (dP L (acs.take k))),stR false 0 ⟨acs.take k,ps⟩ L [.acts],.blk W2.heap.size #[v,.slice B1 ps.length d1] 29,.blk (w.heap.size+1) #[.slice none 0 0,.slice none 0 0] 29]) (fun i _=>acs.length - (intOf i).toNat)
 case atStart=>
  refine⟨0,lay0 B1 d1,.slice none 0 0,?_,?_,?_,?_,HT.out,Hr.out,HH.out,hz⟩
  ·rfl
  ·exact Nat.zero_le _
  ·rfl
  ·rfl
 case round=>
  generalize wr=wl4 at*;clear HT Hr HH hz;obtain⟨k,L,v,rfl,hk,hpA,hpc,ht,pHr,pHH,hz⟩:=hrel;have HT:=zG ht;have Hr:Hid (aj acE wl4 (Fr 0 [.row 0 54 8 v k (cat (dP L (acs.take k))),stR false 0 ⟨acs.take k,ps⟩ L [.acts],.blk W2.heap.size #[v,.slice B1 ps.length d1] 29,.blk (w.heap.size+1) #[.slice none 0 0,.slice none 0 0] 29]) (.slice A acs.length c) acs):=zG pHr;have HH:Hid (aA wl4 (Fr w.heap.size [.row 0 54 8 v k (cat (dP L (acs.take k))),stR false 0 ⟨acs.take k,ps⟩ L [.acts],.blk W2.heap.size #[v,.slice B1 ps.length d1] 29,.blk (w.heap.size+1) #[.slice none 0 0,.slice none 0 0] 29]) ⟨acs.take k,ps⟩ L):=zG pHH;clear ht pHr pHH;have HPA:=zG hpA;have HPC:=zG hpc;clear hpA hpc;by_cases hlt:k<acs.length
  ·obtain⟨x,hx⟩:∃x,acs[k]?=some x:=⟨acs[k],zD hlt⟩;obtain⟨b,o,Bo,co,Br,cr,Bb,cb,rfl,-,-,y0,y1,y2,y3,y4,y5,y6,y7,ro,rr,rb⟩:=Hr.at_a hx;have h8x:=H8.out x (zF hx);rw[h8x] at y4 rr;have H8x:=zG h8x;have Hx:=zG hx;have i1:(0:Int)≤(k:Int):=(by omega);have i2:(k:Int)<(acs.length:Int):=(by omega);have hkt:(acs.take k).length=k:=(by rw[List.length_take];omega);have HKT:=zG hkt;have hWm:(⟨acs.take (k+1),ps⟩:Wd)=(⟨acs.take k,ps⟩:Wd).more x:=(by unfold Wd.more;rw[List.take_add_one,hx];rfl);have HWM:=zG hWm;clear hx h8x hkt hWm;have Ro:Hid (aj obE wl4 (Fr 0 [.row 0 54 8 v k (cat (dP L (acs.take k))),stR false 0 ⟨acs.take k,ps⟩ L [.acts],.blk W2.heap.size #[v,.slice B1 ps.length d1] 29,.blk (w.heap.size+1) #[.slice none 0 0,.slice none 0 0] 29]) (.slice Bo x.heap.ah.length co) x.heap.ah):=zG ro;clear ro;have Rr:Hid (aj vE wl4 (Fr 0 [.row 0 54 8 v k (cat (dP L (acs.take k))),stR false 0 ⟨acs.take k,ps⟩ L [.acts],.blk W2.heap.size #[v,.slice B1 ps.length d1] 29,.blk (w.heap.size+1) #[.slice none 0 0,.slice none 0 0] 29]) (.slice Br 8 cr) x.regs):=zG rr;clear rr;have Rb:Hid (aj vE wl4 (Fr 0 [.row 0 54 8 v k (cat (dP L (acs.take k))),stR false 0 ⟨acs.take k,ps⟩ L [.acts],.blk W2.heap.size #[v,.slice B1 ps.length d1] 29,.blk (w.heap.size+1) #[.slice none 0 0,.slice none 0 0] 29]) (.slice Bb x.box.length cb) x.box):=zG rb;clear rb;have h_:=HT.rz 2;go_wp2_with fail;replace⟨HT,Hr,HH,Ro,Rr,Rb⟩:=sp5 (HT.new' #[.int .i64 x.kind,.int .i64 x.parent,.int .i64 x.heap.most,.slice Bo x.heap.ah.length co,.slice Br 8 cr,.int .i64 x.pc,.slice Bb x.box.length cb,.int .i64 x.fin] 54 wl4.heap.size) Hr.s HH.s Ro.s Rr.s Rb.s;replace hz:=HT.zz hz;clear h_;generalize (wl4.alloc (.cells #[.int .i64 x.kind,.int .i64 x.parent,.int .i64 x.heap.most,.slice Bo x.heap.ah.length co,.slice Br 8 cr,.int .i64 x.pc,.slice Bb x.box.length cb,.int .i64 x.fin] 54))=W6 at*;clear y0 y1 y2 y3 y4 y5 y6 y7;have h_:=HT.rz 3;refine av [.still [0,1,3,4,6,7],.loud 2 [3,4,6,7],.still [9],.loud 5 [6,7,9],.loud 8 [9],.loud 10 [],.still [11],.loud 12 [],.still [13],.loud 14 []] (by kernel_rfl) (by kernel_rfl) ?_;refine ps_ ?_;repeat still_step
   refine zH ?_;refine pl_ ?_;go_wp2_with fail;go_wp2_with fail;replace⟨HT,Hr,HH,Ro,Rr,Rb⟩:=sp5 HT.drew' Hr.s HH.s Ro.s Rr.s Rb.s;replace hz:=HT.zz hz;refine(cloneHr_any x.heap.most _ Bo co x.heap.ah _ Ro.out).mono ?_;rintro en W7 ⟨A2,c2,rfl,hro,hb⟩;clear h_;have Hfresh:=zG (HT.out);have hzo:w.heap.size≤W6.drew.heap.size:=(by omega);replace⟨HT,Hr,HH,Ro,Rr,Rb⟩:=sp5 (HT.call hb) Hr.s HH.s Ro.s Rr.s Rb.s;replace hz:=Nat.le_trans hz hb.size;clear hb;have HO:=zG (hro.fresh (by first|decide|(show 0<1;omega)) Hfresh.out hzo);clear hro;clear Hfresh hzo;have h_:=HT.rz 3;go_wp2_with fail;refine ag_ ?_;refine ps_ ?_;repeat still_step
   refine zH ?_;refine pl_ ?_;go_wp2_with fail;refine(ku _ _ _ x.regs 8 H8x.out _ Rr.out).mono ?_;rintro en W8 ⟨A3,c3,rfl,hown,hb⟩;clear h_;obtain⟨gr,rfl,-⟩:=jH hown (by decide);replace⟨HT,Hr,HH,Ro,Rr,Rb,HO⟩:=sp6 (HT.ownRow hb hown (m:=0) (Nat.zero_le _)) Hr.s HH.s Ro.s Rr.s Rb.s HO.s;replace hz:=Nat.le_trans hz hb.size;clear hb hown;have h_:=HT.rz 3;go_wp2_with fail;refine ag_ ?_;refine pl_ ?_;go_wp2_with fail;refine(ku _ _ _ x.box x.box.length rfl _ Rb.out).mono ?_;rintro en W9 ⟨A4,c4,rfl,hown,hb⟩;clear h_;replace⟨HT,Hr,HH,Ro,Rr,Rb,HO⟩:=sp6 (HT.ownRow hb hown (m:=0) (Nat.zero_le _)) Hr.s HH.s Ro.s Rr.s Rb.s HO.s;replace hz:=Nat.le_trans hz hb.size;clear hb hown;have h_:=HT.rz 3;go_wp2_with fail;refine ag_ ?_;refine pl_ ?_;go_wp2_with fail;go_wp2_with fail;clear h_;obtain⟨T',K'⟩:=HT.put 2 2 (.int .i64 x.heap.most) rfl;simp only[zC,zB,zA] at T' K';replace⟨HT,Hr,HH,Ro,Rr,Rb,HO⟩:=sp6 (And.intro T' K') Hr.s HH.s Ro.s Rr.s Rb.s HO.s;clear T' K';replace hz:=HT.zz hz;generalize W9.setCell ⟨wl4.heap.size,2,none⟩ (.int .i64 x.heap.most)=W10 at*;obtain⟨T',K'⟩:=HT.put 2 3 (.slice A2 x.heap.ah.length c2) rfl;simp only[zC,zB,zA] at T' K';replace⟨HT,Hr,HH,Ro,Rr,Rb,HO⟩:=sp6 (And.intro T' K') Hr.s HH.s Ro.s Rr.s Rb.s HO.s;clear T' K';replace hz:=HT.zz hz;generalize W10.setCell ⟨wl4.heap.size,3,none⟩ (.slice A2 x.heap.ah.length c2)=W11 at*;have h_:=HT.rz 3;refine⟨trivial,?_⟩;refine ps_ ?_;repeat still_step
   refine zH ?_;refine pl_ ?_;go_wp2_with fail;go_wp2_with fail;clear h_;obtain⟨T',K'⟩:=HT.put 2 4 (.slice (some ⟨gr,0,none⟩) 8 c3) rfl;simp only[zC,zB,zA] at T' K';replace⟨HT,Hr,HH,Ro,Rr,Rb,HO⟩:=sp6 (And.intro T' K') Hr.s HH.s Ro.s Rr.s Rb.s HO.s;clear T' K';replace hz:=HT.zz hz;generalize W11.setCell ⟨wl4.heap.size,4,none⟩ (.slice (some ⟨gr,0,none⟩) 8 c3)=W12 at*;have h_:=HT.rz 3;refine⟨trivial,?_⟩;refine ps_ ?_;repeat still_step
   refine zH ?_;refine pl_ ?_;go_wp2_with fail;go_wp2_with fail;clear h_;obtain⟨T',K'⟩:=HT.put 2 6 (.slice A4 x.box.length c4) rfl;simp only[zC,zB,zA] at T' K';replace⟨HT,Hr,HH,Ro,Rr,Rb,HO⟩:=sp6 (And.intro T' K') Hr.s HH.s Ro.s Rr.s Rb.s HO.s;clear T' K';replace hz:=HT.zz hz;generalize W12.setCell ⟨wl4.heap.size,6,none⟩ (.slice A4 x.box.length c4)=W13 at*;have h_:=HT.rz 3;refine⟨trivial,?_⟩;refine zI ?_;clear Ro Rr Rb;have hac9:dP L (acs.take k)++[[.int .i64 x.kind,.int .i64 x.parent,.int .i64 x.heap.most,.slice A2 x.heap.ah.length c2,.slice (some ⟨gr,0,none⟩) 8 c3,.int .i64 x.pc,.slice A4 x.box.length c4,.int .i64 x.fin]]=dP (L.join k A2 c2 gr c3 A4 c4) (acs.take (k+1)):=(by rw[List.take_add_one,Hx.out];exact acRows_join HKT.out);have HAC:=zG hac9;clear hac9;clear h_;have h_:=HT.rz 3;go_wp2_with (at_builtin;go_loud (refine aM rfl (.tmp 30) (.tmp 32) _ rfl (e:=54) (size:=8) (bytes:=112) Tryz.underlying26 infoAc9 rfl (by omega) HT.out 3 rfl rfl [.int .i64 x.kind,.int .i64 x.parent,.int .i64 x.heap.most,.slice A2 x.heap.ah.length c2,.slice (some ⟨gr,0,none⟩) 8 c3,.int .i64 x.pc,.slice A4 x.box.length c4,.int .i64 x.fin] 54 rfl rfl (by simp[Value.oneCell']) (by unfold maxLen;omega) (by omega) (Nat.zero_le _) ?next))
   case next=>
    intro A14 c15 W16 T' K' hs3;try rw[HAC.out] at T' K'
    clear h_;replace T':St w.heap.size w W16 [.row 0 88 2 (.slice A4 x.box.length c4) x.box.length (cat (vcs x.box)),.row 0 88 2 (.slice (some ⟨gr,0,none⟩) 8 c3) 8 (cat (vcs x.regs)),.blk wl4.heap.size #[.int .i64 x.kind,.int .i64 x.parent,.int .i64 x.heap.most,.slice A2 x.heap.ah.length c2,.slice (some ⟨gr,0,none⟩) 8 c3,.int .i64 x.pc,.slice A4 x.box.length c4,.int .i64 x.fin] 54,.row 0 54 8 (.slice A14 (k+1) c15) (k+1) (cat (dP (L.join k A2 c2 gr c3 A4 c4) (acs.take (k+1)))),stR false 0 ⟨acs.take k,ps⟩ L [.acts],.blk W2.heap.size #[v,.slice B1 ps.length d1] 29,.blk (w.heap.size+1) #[.slice none 0 0,.slice none 0 0] 29]:=T';replace K':au W13 [.row 0 88 2 (.slice A4 x.box.length c4) x.box.length (cat (vcs x.box)),.row 0 88 2 (.slice (some ⟨gr,0,none⟩) 8 c3) 8 (cat (vcs x.regs)),.blk wl4.heap.size #[.int .i64 x.kind,.int .i64 x.parent,.int .i64 x.heap.most,.slice A2 x.heap.ah.length c2,.slice (some ⟨gr,0,none⟩) 8 c3,.int .i64 x.pc,.slice A4 x.box.length c4,.int .i64 x.fin] 54,.row 0 54 8 v k (cat (dP L (acs.take k))),stR false 0 ⟨acs.take k,ps⟩ L [.acts],.blk W2.heap.size #[v,.slice B1 ps.length d1] 29,.blk (w.heap.size+1) #[.slice none 0 0,.slice none 0 0] 29] W16 [.row 0 88 2 (.slice A4 x.box.length c4) x.box.length (cat (vcs x.box)),.row 0 88 2 (.slice (some ⟨gr,0,none⟩) 8 c3) 8 (cat (vcs x.regs)),.blk wl4.heap.size #[.int .i64 x.kind,.int .i64 x.parent,.int .i64 x.heap.most,.slice A2 x.heap.ah.length c2,.slice (some ⟨gr,0,none⟩) 8 c3,.int .i64 x.pc,.slice A4 x.box.length c4,.int .i64 x.fin] 54,.row 0 54 8 (.slice A14 (k+1) c15) (k+1) (cat (dP (L.join k A2 c2 gr c3 A4 c4) (acs.take (k+1)))),stR false 0 ⟨acs.take k,ps⟩ L [.acts],.blk W2.heap.size #[v,.slice B1 ps.length d1] 29,.blk (w.heap.size+1) #[.slice none 0 0,.slice none 0 0] 29]:=K';replace HT:=zG T';replace Hr:=zG (Hr.move (by decide) K');replace HH:=zG (HH.move K');replace HO:=zG (HO.move (by decide) K');replace hz:w.heap.size+1+1≤W16.heap.size:=(by omega);clear T' K';have h_:=HT.rz 3;go_wp2_with fail;clear h_;obtain⟨T',K'⟩:=HT.put 5 0 (.slice A14 (k+1) c15) rfl;simp only[zC,zB,zA] at T' K';replace⟨HT,Hr,HH,HO⟩:=sp3 (And.intro T' K') Hr.s HH.s HO.s;clear T' K';replace hz:=HT.zz hz;generalize W16.setCell ⟨W2.heap.size,0,none⟩ (.slice A14 (k+1) c15)=W17 at*;replace⟨HT,Hr,HH,HO⟩:=sp3 (nd2 (HT.drop 2)) Hr.s HH.s HO.s;replace⟨HT,Hr,HH,HO⟩:=sp3 (HT.perm (.trans (.trans (.cons _ (.cons _ (.swap _ _ _))) (.cons _ (.swap _ _ _))) (.swap _ _ _))) Hr.s HH.s HO.s;replace⟨HT,Hr,HH,HO⟩:=sp3 (HT.perm (.swap _ _ _)) Hr.s HH.s HO.s;replace⟨HT,Hr,HH,HO⟩:=sp3 (HT.perm (.trans (.cons _ (.swap _ _ _)) (.swap _ _ _))) Hr.s HH.s HO.s;replace⟨HT,Hr,HH,HO⟩:=sw3 W17 [stR false 0 ⟨acs.take (k+1),ps⟩ (L.join k A2 c2 gr c3 A4 c4) [.acts],.row 0 54 8 (.slice A14 (k+1) c15) (k+1) (cat (dP (L.join k A2 c2 gr c3 A4 c4) (acs.take (k+1)))),.blk W2.heap.size #[.slice A14 (k+1) c15,.slice B1 ps.length d1] 29,.blk (w.heap.size+1) #[.slice none 0 0,.slice none 0 0] 29] (HT.join (A:=A2) (oc:=c2) H8x.out HKT.out HWM.out) Hr.s HH.s HO.s;replace HH:=zG (aA.join (A:=A2) (oc:=c2) (gr:=gr) (rc:=c3) (Bb:=A4) (bc:=c4) HH.out HKT.out HWM.out HO.out);clear HO;replace⟨HT,Hr,HH⟩:=sp2 (HT.perm (.trans (.trans (.cons _ (.cons _ (.swap _ _ _))) (.cons _ (.swap _ _ _))) (.swap _ _ _))) Hr.s HH.s;replace⟨HT,Hr,HH⟩:=sp2 (HT.perm (.trans (.trans (.cons _ (.cons _ (.swap _ _ _))) (.cons _ (.swap _ _ _))) (.swap _ _ _))) Hr.s HH.s;replace⟨HT,Hr,HH⟩:=sp2 (HT.perm (.trans (.cons _ (.swap _ _ _)) (.swap _ _ _))) Hr.s HH.s;replace⟨HT,Hr,HH⟩:=sp2 (HT.perm (.trans (.trans (.cons _ (.cons _ (.swap _ _ _))) (.cons _ (.swap _ _ _))) (.swap _ _ _))) Hr.s HH.s;go_roundw
    case rel=>
     refine⟨k+1,L.join k A2 c2 gr c3 A4 c4,.slice A14 (k+1) c15,?_,?_,HPA.out,HPC.out,HT.out,Hr.out,HH.out,hz⟩
     ·go_num
     ·omega
    case measure=>simp[intOf];omega
  ·have hkk:k=acs.length:=(by omega);subst hkk;have e9:acs.take acs.length=acs:=List.take_length;rw[e9] at HT HH;clear e9 hlt hk;clear Hr;obtain⟨A6,c6,rfl⟩:=bZ (HT.own 0 rfl);obtain⟨ga,rfl,-⟩:=jH (HT.own 0 rfl) hpos;have i3:¬(acs.length:Int)<(acs.length:Int):=(by omega);have h_:=HT.rz 2;go_wp2_with fail;clear h_;replace⟨HT,HH⟩:=sp1 (ns3 (HT.dt 3 (.slice (some ⟨ga,0,none⟩) acs.length c6) (.slice B1 ps.length d1) rfl rfl)) HH.s;replace hz:=HT.zz hz;generalize (wl4.setCell ⟨w.heap.size+1,0,none⟩ (.slice (some ⟨ga,0,none⟩) acs.length c6)).setCell ⟨w.heap.size+1,1,none⟩ (.slice B1 ps.length d1)=W5 at*;have h_:=HT.rz 2;have RO:=zG h_.2.2.2.1;clear h_;(iterate 2 replace⟨HT,HH⟩:=sp1 (nd2 (HT.drop 2)) HH.s);replace⟨HT,HH⟩:=sp1 (HT.perm (.swap _ _ _)) HH.s;replace⟨HT,HH⟩:=sp1 (HT.perm (.swap _ _ _)) HH.s;replace⟨HT,HH⟩:=sw1 W5 [stR false 0 ⟨acs,ps⟩ {L with g:=ga,gc:=c6} []] (St.withActs (W:=⟨acs,ps⟩) (L:=L) HT.out) HH.s;have q1:=HPA.out;have q2:=HPC.out;subst q1 q2;try simp only[Exit.inBlock,Exit.then]
   refine bodyPost_ret (v:= .agg #[.slice (some ⟨ga,0,none⟩) acs.length c6,.slice L.pA ps.length L.pc]) (by simp[results,Tryz.results37,go_sem,RO.out]) rfl ?_;exact⟨{L with g:=ga,gc:=c6},rfl,HT.out,HH.out⟩
end
section
open Go.RowKit
theorem worldE_zero {ps:List (List Ins)} {W:Wd} (h:worldE ps W=0):(jf ps).2.2=0∧bK ps W:=by
 unfold worldE at h;split at h
 ·rename_i hx;exact absurd h hx
 ·rename_i hx
  split at h
  ·rename_i hw;exact⟨by simpa using hx,wdB_iff.1 hw⟩
  ·cases h
theorem worldE_ok {ps:List (List Ins)} {W:Wd} (hv:(jf ps).2.2=0) (h:bK ps W):worldE ps W=0:=by
 unfold worldE;rw[if_neg (by simp[hv]),if_pos (wdB_iff.2 h)]
set_option maxRecDepth 100000 in
set_option maxHeartbeats 8000000 in
theorem doOk_any (S T U:Nat→Prop) (Ap:Option Addr) (cp:Nat) (ps:List (List Ins)) (A:Option Addr) (c:Nat) (acs:List Ac) (Bp:Option Addr) (d:Nat) (ts:List Td) (dk da dn dm:Int) (w:World) (hu:dV w) (hr:aj pgE w S (.slice Ap ps.length cp) ps) (hq:aj acE w T (.slice A acs.length c) acs) (ht:aj tdE w U (.slice Bp ts.length d) ts)
  (hE:worldE ps ⟨acs,ts⟩=0) (hd:cO ⟨dk,da,dn,dm⟩=0):
  Calls Tryz.prog 14 #[.agg #[.slice Ap ps.length cp],.agg #[.slice A acs.length c,.slice Bp ts.length d],.agg #[.int .i64 dk,.int .i64 da,.int .i64 dn,.int .i64 dm]] w (RunD w (iY ps ⟨acs,ts⟩ ⟨dk,da,dn,dm⟩) 0):=by
 unfold RunD;obtain⟨hv,hok⟩:=worldE_zero hE;have hf:=(nC hv).1;have h8:∀a∈acs,a.regs.length=8:=fun a ha=>by obtain⟨i,hi⟩:=List.getElem?_of_mem ha;exact(hok.acs i a hi).regs
 have hpos:0<acs.length:=hok.one;obtain⟨-,u1,-,-⟩:=hr.fw;have Hu:=zG hu;have Hr:=zG hr;have Hq:=zG hq;have Ht:=zG ht;have HOK:=zG hok;have HF:=zG hf;have HD:=zG hd;have H8:=zG h8;have HPos:=zG hpos;have GC:Hid (∀W S T U,dV W→aj pgE W S (.slice Ap ps.length cp) ps→aj acE W T (.slice A acs.length c) acs→aj tdE W U (.slice Bp ts.length d) ts→Calls Tryz.prog 36 #[.agg #[.slice Ap ps.length cp],.agg #[.slice A acs.length c,.slice Bp ts.length d]] W (fun e w'=>e= .returned (.int .i64 0)∧Below W.heap.size W w')):=zG (fun W S T U h1 h2 h3 h4=>by have:=checkW_any S T U Ap cp ps A c acs Bp d ts W h1 h2 h3 h4;rwa[hE] at this);have GD:Hid (∀W,Calls Tryz.prog 27 #[.agg #[.int .i64 dk,.int .i64 da,.int .i64 dn,.int .i64 dm],.int .i64 acs.length] W (fun e w'=>e= .returned (.int .i64 0)∧Below W.heap.size W w')):=zG (fun W=>by have:=actCheck_any dk da dn dm acs.length W;rwa[hd] at this);clear hu hr hq ht hv hok hf h8 hpos hE hd;have T0:St 0 w (((((w.alloc (.cells #[.slice Ap ps.length cp] 24)).alloc (.cells #[.slice A acs.length c,.slice Bp ts.length d] 29)).alloc (.cells #[.int .i64 dk,.int .i64 da,.int .i64 dn,.int .i64 dm] 36)).alloc (.cells #[.slice none 0 0,.slice none 0 0] 29))) [.blk (w.heap.size+1+1+1) #[.slice none 0 0,.slice none 0 0] 29,.blk (w.heap.size+1+1) #[.int .i64 dk,.int .i64 da,.int .i64 dn,.int .i64 dm] 36,.blk (w.heap.size+1) #[.slice A acs.length c,.slice Bp ts.length d] 29,.blk w.heap.size #[.slice Ap ps.length cp] 24,mI w]:=(((((((((oldStart w)).new' #[.slice Ap ps.length cp] 24 (w.heap.size) (by simp)).1).new' #[.slice A acs.length c,.slice Bp ts.length d] 29 (w.heap.size+1) (by simp)).1).new' #[.int .i64 dk,.int .i64 da,.int .i64 dn,.int .i64 dm] 36 (w.heap.size+1+1) (by simp)).1).new' #[.slice none 0 0,.slice none 0 0] 29 (w.heap.size+1+1+1) (by simp)).1;have HT:=zG T0;have hz:w.heap.size+1+1+1+1≤((((w.alloc (.cells #[.slice Ap ps.length cp] 24)).alloc (.cells #[.slice A acs.length c,.slice Bp ts.length d] 29)).alloc (.cells #[.int .i64 dk,.int .i64 da,.int .i64 dn,.int .i64 dm] 36)).alloc (.cells #[.slice none 0 0,.slice none 0 0] 29)).heap.size:=(by simp);clear T0;go_enter Tryz.func14,Tryz.ntmps14
 go_upto_region 1 with fail;generalize ((((w.alloc (.cells #[.slice Ap ps.length cp] 24)).alloc (.cells #[.slice A acs.length c,.slice Bp ts.length d] 29)).alloc (.cells #[.int .i64 dk,.int .i64 da,.int .i64 dn,.int .i64 dm] 36)).alloc (.cells #[.slice none 0 0,.slice none 0 0] 29))=W1 at*;have h_:=HT.rz 4;go_wp2_with fail;refine(GC.out _ _ _ _ (Hu.below (HT.ma 4 rfl)) (aj.old (E:=pgE) Hr.out (by show 0<1;omega) (HT.at_ 4 rfl)) (aj.old (E:=acE) Hq.out (by decide) (HT.at_ 4 rfl)) (aj.old (E:=tdE) Ht.out (by decide) (HT.at_ 4 rfl))).mono ?_;rintro en W2 ⟨rfl,hb⟩;clear h_;replace HT:=sp0 (HT.call hb);replace hz:=Nat.le_trans hz hb.size;clear hb;have h_:=HT.rz 4;go_wp2_with fail;refine(GD.out _).mono ?_;rintro en W3 ⟨rfl,hb⟩;clear h_;replace HT:=sp0 (HT.call hb);replace hz:=Nat.le_trans hz hb.size;clear hb;have h_:=HT.rz 4;clear GC GD;go_upto_region 7 with fail;clear h_;have h_:=HT.rz 4;refine av [.still [0,2],.loud 1 [2],.loud 3 [],.still [4],.loud 5 [],.still [6]] (by kernel_rfl) (by kernel_rfl) ?_;refine ps_ ?_;repeat still_step
 refine zH ?_;refine pl_ ?_;go_wp2_with fail;replace HT:=sp0 HT.drew';replace hz:=HT.zz hz;refine(copyP_any _ Ap cp ps _ (aj.old (E:=pgE) Hr.out (by show 0<1;omega) (HT.at_ 4 rfl))).mono ?_;rintro en W4 ⟨v9,rfl,⟨s9,rfl,hcp⟩,hb⟩;obtain⟨A3,c3,rfl,-⟩:=hcp.form;replace hcp:aj pgE W4 (fun b=>W3.drew.heap.size≤b) (.slice A3 ps.length c3) ps:=hcp;clear h_;have Hfresh:=zG (HT.out);have hzo:w.heap.size≤W3.drew.heap.size:=(by omega);replace HT:=sp0 (HT.call hb);replace hz:=Nat.le_trans hz hb.size;clear hb;have HP:Hid (aj pgE W4 (Fr 0 [.blk (w.heap.size+1+1+1) #[.slice none 0 0,.slice none 0 0] 29,.blk (w.heap.size+1+1) #[.int .i64 dk,.int .i64 da,.int .i64 dn,.int .i64 dm] 36,.blk (w.heap.size+1) #[.slice A acs.length c,.slice Bp ts.length d] 29,.blk w.heap.size #[.slice Ap ps.length cp] 24,mI w]) (.slice A3 ps.length c3) ps):=zG ((aj.fresh (E:=pgE) hcp (by show 0<1;omega) Hfresh.out hzo).fr0 (by show 0<1;omega) (Nat.zero_le _));clear hcp Hfresh hzo;have h_:=HT.rz 4;go_wp2_with fail;refine ag_ ?_;refine pl_ ?_;go_wp2_with fail;refine(copyS_any _ _ A Bp c d acs ts _ (aj.old (E:=acE) Hq.out (by decide) (HT.at_ 4 rfl)) (aj.old (E:=tdE) Ht.out (by decide) (HT.at_ 4 rfl)) H8.out HPos.out).mono ?_;rintro en W5 ⟨L,rfl,hT,hH⟩;have Hfresh:=zG (HT.out);clear h_;replace⟨HT,HP⟩:=sp1 (HT.qP hT) HP.s;replace hz:w.heap.size+1+1+1+1≤W5.heap.size:=Nat.le_trans hz hT.below.size;have HH:Hid (aA W5 (Fr 0 [stR false 0 ⟨acs,ts⟩ L [],.blk (w.heap.size+1+1+1) #[.slice none 0 0,.slice none 0 0] 29,.blk (w.heap.size+1+1) #[.int .i64 dk,.int .i64 da,.int .i64 dn,.int .i64 dm] 36,.blk (w.heap.size+1) #[.slice A acs.length c,.slice Bp ts.length d] 29,.blk w.heap.size #[.slice Ap ps.length cp] 24,mI w]) ⟨acs,ts⟩ L):=zG (aA.qP Hfresh.out hH);clear Hfresh hT hH;have h_:=HT.rz 4;go_wp2_with fail;refine⟨trivial,?_⟩;refine ps_ ?_;repeat still_step
 refine zH ?_;refine pl_ ?_;go_wp2_with fail;go_wp2_with fail;obtain⟨bs,hbs⟩:∃b,b=W5.heap.size:=⟨_,rfl⟩;rw[←hbs];replace⟨HT,HP,HH⟩:=sp2 (HT.new' #[.slice A3 ps.length c3,.slice (some ⟨L.g,0,none⟩) acs.length L.gc,.slice L.pA ts.length L.pc] 67 bs hbs) HP.s HH.s;replace hz:=HT.zz hz;clear hbs;clear h_;generalize (W5.alloc (.cells #[.slice A3 ps.length c3,.slice (some ⟨L.g,0,none⟩) acs.length L.gc,.slice L.pA ts.length L.pc] 67))=W6 at*;replace⟨HT,HP,HH⟩:=sp2 (HT.perm (.trans (.trans (.trans (.trans (.cons _ (.cons _ (.cons _ (.cons _ (.swap _ _ _))))) (.cons _ (.cons _ (.cons _ (.swap _ _ _))))) (.cons _ (.cons _ (.swap _ _ _)))) (.cons _ (.swap _ _ _))) (.swap _ _ _))) HP.s HH.s;replace⟨HT,HP,HH⟩:=sp2 (nd0 (HT.drop 0)) HP.s HH.s;replace⟨HT,HP,HH⟩:=sp2 (HT.perm (.trans (.trans (.trans (.cons _ (.cons _ (.cons _ (.swap _ _ _)))) (.cons _ (.cons _ (.swap _ _ _)))) (.cons _ (.swap _ _ _))) (.swap _ _ _))) HP.s HH.s;replace⟨HT,HP,HH⟩:=sp2 (nd0 (HT.drop 0)) HP.s HH.s;replace⟨HT,HP,HH⟩:=sp2 (HT.perm (.swap _ _ _)) HP.s HH.s;replace⟨HT,HP,HH⟩:=sp2 (HT.perm (.swap _ _ _)) HP.s HH.s;replace⟨HT,HP,HH⟩:=sp2 (HT.stageHead (nk:=ps.length) bs A3 c3 (by simp[eB])) HP.s HH.s;replace HH:Hid (aA W6 (Fr 0 [stR true ps.length ⟨acs,ts⟩ {L with head:=bs,kA:=A3,kc:=c3} [],.blk (w.heap.size+1+1+1) #[.slice none 0 0,.slice none 0 0] 29,.blk (w.heap.size+1+1) #[.int .i64 dk,.int .i64 da,.int .i64 dn,.int .i64 dm] 36,mI w]) ⟨acs,ts⟩ {L with head:=bs,kA:=A3,kc:=c3}):=HH;have h_:=HT.rz 2;refine⟨trivial,?_⟩;refine ps_ ?_;repeat still_step
 refine zH ?_;refine zI ?_;clear h_;have h_:=HT.rz 2;go_wp2_with fail;have G9:=actS_any 0 w _ [.blk (w.heap.size+1+1+1) #[.slice none 0 0,.slice none 0 0] 29,.blk (w.heap.size+1+1) #[.int .i64 dk,.int .i64 da,.int .i64 dn,.int .i64 dm] 36,mI w] ps ⟨acs,ts⟩ {L with head:=bs,kA:=A3,kc:=c3} dk da dn dm HT.out HH.out HP.out HOK.out HF.out HD.out;dsimp only at G9;generalize hV2:iY ps ⟨acs,ts⟩ ⟨dk,da,dn,dm⟩=V2 at*;have HV2:=zG hV2;clear hV2;refine G9.mono ?_;rintro en W7 ⟨rfl,L9,q1,q2,q3,hT,hH,hK,hs⟩;dsimp only at q1;clear h_;have K':=hK;replace HT:=zG hT;clear HP;replace HH:=zG hH;clear K' hK hT hH G9 q2 q3;replace hz:w.heap.size+1+1+1+1≤W7.heap.size:=Nat.le_trans hz hs;clear hs;have HB:=zG q1;clear q1;have h_:=HT.rz 2;have c_:=HT.hc 0;rw[HB.out] at c_;go_wp2_with fail;clear h_ c_;replace⟨HT,HH⟩:=sp1 (ns1 (HT.dt 1 (.slice (some ⟨L9.g,0,none⟩) V2.aa.length L9.gc) (.slice L9.pA V2.prints.length L9.pc) rfl rfl)) HH.s;replace hz:=HT.zz hz;generalize (W7.setCell ⟨w.heap.size+1+1+1,0,none⟩ (.slice (some ⟨L9.g,0,none⟩) V2.aa.length L9.gc)).setCell ⟨w.heap.size+1+1+1,1,none⟩ (.slice L9.pA V2.prints.length L9.pc)=W8 at*;have h_:=HT.rz 2;have RO:=zG h_.1;clear h_;replace⟨HT,HH⟩:=sp1 (HT.perm (.swap _ _ _)) HH.s;replace⟨HT,HH⟩:=sp1 (nd0 (HT.drop 0)) HH.s;replace⟨HT,HH⟩:=sp1 (HT.perm (.swap _ _ _)) HH.s;replace⟨HT,HH⟩:=sp1 (nd0 (HT.drop 0)) HH.s;have hok2:bK ps V2:=(by rw[←HV2.out];exact HOK.act HF.out HD.out);have hr9:=stage_acts HT.out HH.out (fun a ha=>hok2.box ha) (by have:=hok2.few;omega);have hr8:=stage_tds HT.out (by have:=hok2.told;omega);try simp only[Exit.inBlock,Exit.then]
 refine bodyPost_ret (v:= .tuple #[.agg #[.slice (some ⟨L9.g,0,none⟩) V2.aa.length L9.gc,.slice L9.pA V2.prints.length L9.pc],.int .i64 0]) (by simp[results,Tryz.results14,go_sem,RO.out]) rfl ?_;have e9:=HV2.out;subst e9;exact⟨_,_,_,_,rfl,hr9,hr8,HT.ma 1 rfl⟩
end
end Go.Proofs.YtmgbhhabdapniaaGreatDoor
