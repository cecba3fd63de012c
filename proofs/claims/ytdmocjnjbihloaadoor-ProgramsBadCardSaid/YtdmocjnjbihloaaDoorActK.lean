/- Worlds of actors and what is done in them, as plain functions of plain data. No condition; no run. The walks of actor.field and actor.sum. Condition: what is added up are words. The walk of actor.check: may an act be done? No condition. -/
import Derived.Test.YtdmocjnjbihloaaDoorTransfer
import Derived.Test.YtdmocjnjbihloaaDoorAlloc
import Derived.Test.YtdmocjnjbihloaaDoorFlowM
import Derived.Test.YtdmocjnjbihloaaDoorGet
import Derived.Test.YtdmocjnjbihloaaDoorSortI
namespace Go.Proofs.YtdmocjnjbihloaaDoor
section
open Go.RowKit
def aQ:V:=⟨0,0⟩
def noAc:Ac:=⟨0,0,⟨0,[]⟩,[],0,[],0⟩
def aC (a:Ac):List V:=a.regs++a.box
def acB (ps:List (List Ins)) (n:Int) (a:Ac):Bool:=
 decide (0≤a.kind)&&decide (a.kind<ps.length)&&decide (-1≤a.parent)&&decide (a.parent<n)&&decide (0≤a.fin)&&decide (a.fin≤8)&&decide (a.regs.length=8)&&decide (a.box.length≤6)&&
  hpB a.heap (aC a)&&decide (-1≤a.pc)&&decide (a.pc<((ps.getD a.kind.toNat []).length:Int))&&a.box.all (fun v=>v.k==2)&&(a.fin==0||(decide (a.box.length=0)&&decide (a.heap.ah.length=0)&&a.pc== -1))
def tdB (n:Nat) (t:Td):Bool:=decide (0≤t.cK)&&decide (t.cK<n)&&decide (-1099511627776≤t.n)&&decide (t.n≤1099511627776)
def wdB (ps:List (List Ins)) (W:Wd):Bool:=
 decide (1≤W.aa.length)&&decide (W.aa.length≤8)&&decide (W.prints.length≤500)&&(List.range W.aa.length).all (fun i=>acB ps i (W.aa.getD i noAc))&&W.prints.all (tdB W.aa.length)
noncomputable def worldE (ps:List (List Ins)) (W:Wd):Int:=if(jf ps).2.2≠0 then(jf ps).2.2 else if wdB ps W then 0 else 8
def cO (d:ig):Int:=
 if d.kind<1∨3<d.kind then 3 else if d.cK<0∨8≤d.cK∨d.n< -1099511627776∨1099511627776<d.n∨d.m< -1099511627776∨1099511627776<d.m then 2 else 0
def Wd.at_ (W:Wd) (n:Nat):Ac:=W.aa.getD n noAc
def Wd.put (W:Wd) (n:Nat) (a:Ac):Wd:=⟨W.aa.set n a,W.prints⟩
def Ac.reg (a:Ac) (r:Int):V:=a.regs.getD r.toNat aQ
def Ac.ai (a:Ac) (r:Int) (v:V):Ac:={a with regs:=a.regs.set r.toNat v}
def Ac.af (a:Ac) (h:Hp):Ac:={a with heap:=h}
def Ac.aG (a:Ac) (n:Int):Ac:={a with pc:=n}
def Ac.aK (a:Ac) (l:List V):Ac:={a with box:=l}
def gH (W:Wd) (n:Int):Bool:=decide (0≤n)&&decide (n<W.aa.length)&&((W.at_ n.toNat).fin==0)
noncomputable def aS (a:Ac):Ac:=
 if hpB a.heap (aC a)=false then a else
 {a with heap:=gU a.heap (aC a) (ay a.heap.ah (aC a)),regs:=(eT a.heap (aC a) (ay a.heap.ah (aC a))).take 8,box:=(eT a.heap (aC a) (ay a.heap.ah (aC a))).drop 8}
noncomputable def aD (a:Ac) (f:Int):Ac:=if bV a.heap f=7 then aS a else a
noncomputable def bL (a:Ac) (f:Int):Int:=bV (aD a f).heap f
noncomputable def fG (a:Ac) (f:Int):V:=bP (aD a f).heap f
noncomputable def aL (a:Ac) (f:Int):Ac:=if bL a f=0 then(aD a f).af (bX (aD a f).heap f) else aD a f
def twoH (h:Hp) (v:V) (x y:Int):Hp:=setH (setH h v 0 ⟨1,x⟩) v 1 ⟨1,y⟩
noncomputable def iK (a:Ac) (x y:Int):Ac:=
 if bL a 2=0 then((aL a 2).af (twoH (aL a 2).heap (fG a 2) x y)).aK ((aL a 2).box++[fG a 2]) else aL a 2
def gV (W:Wd) (n:Int):Bool:=gH W n&& !decide ((W.at_ n.toNat).box.length=6)
noncomputable def gZ (W:Wd) (n x y:Int):Wd:=if gV W n then W.put n.toNat (iK (W.at_ n.toNat) x y) else W
def eP (a:Ac) (how:Int):Ac:=⟨a.kind,a.parent,⟨a.heap.most,[]⟩,List.replicate 8 aQ,-1,[],how⟩
noncomputable def endW (W:Wd) (n:Nat) (how:Int):Wd:=gZ (W.put n (eP (W.at_ n) how)) (W.at_ n).parent n how
noncomputable def spoilt (h:Hp) (v:V):Bool:=hpB h [v]==false||(ay h.ah [v]).any (aV h.ah)
def dL (W:Wd) (n:Nat) (r:Int) (move:Bool):Wd:=if move then W.put n ((W.at_ n).ai r aQ) else W
noncomputable def dU (fr:Hp) (v:V) (tt:Hp):Int:=dh fr v tt (ay fr.ah [v])
noncomputable def fB (W:Wd) (n t:Nat) (r:Int) (move:Bool):Wd:=
 if dU (W.at_ n).heap ((W.at_ n).reg r) (W.at_ t).heap≠0 then W else
 (W.put n ((W.at_ n).af (bC (W.at_ n).heap ((W.at_ n).reg r) (W.at_ t).heap (ay (W.at_ n).heap.ah [(W.at_ n).reg r]) move))).put t
  (((W.put n ((W.at_ n).af (bC (W.at_ n).heap ((W.at_ n).reg r) (W.at_ t).heap (ay (W.at_ n).heap.ah [(W.at_ n).reg r]) move))).at_ t).af (dA (W.at_ n).heap ((W.at_ n).reg r) (W.at_ t).heap (ay (W.at_ n).heap.ah [(W.at_ n).reg r]))
   |>.aK ((W.at_ t).box++[dX (W.at_ n).heap ((W.at_ n).reg r) (W.at_ t).heap (ay (W.at_ n).heap.ah [(W.at_ n).reg r])]))
noncomputable def iI (W:Wd) (n t:Nat) (r:Int):Wd:=if dU (W.at_ n).heap ((W.at_ n).reg r) (W.at_ t).heap=7 then W.put t (aS (W.at_ t)) else W
noncomputable def fq (W:Wd) (n:Nat) (r tt:Int) (move:Bool):Wd:=
 dL (if spoilt (W.at_ n).heap ((W.at_ n).reg r) then W else if gV W tt=false then W
  else if tt=n∧move=true then W.put n ((W.at_ n).aK ((W.at_ n).box++[(W.at_ n).reg r]))
  else fB (iI W n tt.toNat r) n tt.toNat r move) n r move
def dS (kind parent:Int) (h:Hp) (v:V):Ac:=⟨kind,parent,h,v::List.replicate 7 aQ,-1,[],0⟩
noncomputable def eD (W:Wd) (n:Nat) (i:Ins):Int:=
 if W.aa.length=8 then 6 else if dU (W.at_ n).heap ((W.at_ n).reg i.b) ⟨(W.at_ n).heap.most,[]⟩≠0 then 8 else 0
noncomputable def eG (W:Wd) (n:Nat) (i:Ins):Wd:=
 if eD W n i≠0 then W else
 ⟨W.aa.set n ((((W.at_ n).af (bC (W.at_ n).heap ((W.at_ n).reg i.b) ⟨(W.at_ n).heap.most,[]⟩ (ay (W.at_ n).heap.ah [(W.at_ n).reg i.b]) true)).ai i.b aQ).ai i.a ⟨1,W.aa.length⟩)++
  [dS i.n n (dA (W.at_ n).heap ((W.at_ n).reg i.b) ⟨(W.at_ n).heap.most,[]⟩ (ay (W.at_ n).heap.ah [(W.at_ n).reg i.b])) (dX (W.at_ n).heap ((W.at_ n).reg i.b) ⟨(W.at_ n).heap.most,[]⟩ (ay (W.at_ n).heap.ah [(W.at_ n).reg i.b]))],W.prints⟩
def aH (h:Hp) (v:V) (f:Int):Int:=if jC h.most h.ah v f=0 then 0 else if jC h.most h.ah v f=2 then 4 else 8
def cz (h:Hp) (v:V) (f:Int):V:=fP h.most h.ah v f
def jI (op x y:Int):Int:=if op=2 then x+y else if op=3 then x - y else if x<y then 1 else 0
noncomputable def fA (a:Ac) (i:Ins):Int:=
 if i.op=0 then(if(a.reg 0).k=2 then 0 else 8)
 else if i.op=2∨i.op=3∨i.op=4 then(if(a.reg i.a).k≠1∨(a.reg i.b).k≠1 then 8 else if aY (jI i.op (a.reg i.a).n (a.reg i.b).n) then 0 else 7)
 else if i.op=5 then(if(a.reg i.a).k=1 then 0 else 8)
 else if i.op=7 then(if bL a i.n=0 then 0 else 5)
 else if i.op=8∨i.op=10 then(if aH a.heap (a.reg i.b) i.n≠0 then aH a.heap (a.reg i.b) i.n else if i.op=8∧(cz a.heap (a.reg i.b) i.n).k≠1 then 2 else if i.op=10∧(cz a.heap (a.reg i.b) i.n).k≠2 then 3 else 0)
 else if i.op=9∨i.op=11 then(if aH a.heap (a.reg i.a) i.n≠0 then aH a.heap (a.reg i.a) i.n else if(i.op=9∧(a.reg i.b).k≠1)∨(i.op=11∧(a.reg i.b).k≠2) then 8 else 0)
 else if i.op=19 then 1 else 0
noncomputable def eZ (n:Nat) (a:Ac) (i:Ins):Ac:=
 if i.op=0 then {a with regs:=a.reg 0::List.replicate 7 aQ}
 else if i.op=1 then a.ai i.a ⟨1,i.n⟩
 else if i.op=2∨i.op=3∨i.op=4 then a.ai i.a ⟨1,jI i.op (a.reg i.a).n (a.reg i.b).n⟩
 else if i.op=7 then(if bL a i.n=0 then(aL a i.n).ai i.a (fG a i.n) else aL a i.n)
 else if i.op=8∨i.op=10 then a.ai i.a (cz a.heap (a.reg i.b) i.n)
 else if i.op=9∨i.op=11 then a.af (setH a.heap (a.reg i.a) i.n (a.reg i.b))
 else if i.op=12 then a.ai i.a (a.reg i.b)
 else if i.op=18 then a.ai i.a aQ
 else if i.op=16 then a.ai i.a ⟨1,n⟩
 else a
def bW (a:Ac) (i:Ins):Int:=if i.op=0 then -1 else if i.op=6∨(i.op=5∧(a.reg i.a).n=0) then a.pc+i.n else a.pc+1
def jv (op:Int):Bool:=op==13||op==14||op==15||op==17
noncomputable def fu (W:Wd) (n:Nat) (i:Ins):Int:=
 if i.op=15 then(if((W.at_ n).reg i.a).k=1 then 0 else 8)
 else if i.op=17 then(if((W.at_ n).reg i.b).k≠2 then 8 else eD W n i)
 else(if((W.at_ n).reg i.a).k≠2∨((W.at_ n).reg i.b).k≠1 then 8 else if spoilt (W.at_ n).heap ((W.at_ n).reg i.a) then 8 else 0)
noncomputable def bU (W:Wd) (n:Nat) (i:Ins):Wd:=
 if i.op=15 then(if((W.at_ n).reg i.a).k=1∧W.prints.length<500 then ⟨W.aa,W.prints++[⟨n,((W.at_ n).reg i.a).n⟩]⟩ else W)
 else if i.op=17 then(if((W.at_ n).reg i.b).k≠2 then W else eG W n i)
 else(if((W.at_ n).reg i.a).k≠2∨((W.at_ n).reg i.b).k≠1 then W else fq W n i.a ((W.at_ n).reg i.b).n (i.op==13))
noncomputable def kF (W:Wd) (n:Nat) (i:Ins):Int:=if jv i.op then fu W n i else fA (W.at_ n) i
noncomputable def didW (W:Wd) (n:Nat) (i:Ins):Wd:=
 if jv i.op then(bU W n i).put n (((bU W n i).at_ n).aG (bW (W.at_ n) i)) else W.put n ((eZ n (W.at_ n) i).aG (bW (W.at_ n) i))
noncomputable def kU (W:Wd) (n:Nat) (i:Ins):Wd:=
 if jv i.op then bU W n i else if i.op=7 then W.put n (aL (W.at_ n) i.n) else W
noncomputable def stepW (ps:List (List Ins)) (W:Wd) (n:Nat):Wd:=
 if(W.at_ n).fin≠0 then W
 else if 0≤(W.at_ n).pc then(if kF W n ((ps.getD (W.at_ n).kind.toNat []).getD (W.at_ n).pc.toNat ⟨0,0,0,0⟩)=0 then didW W n ((ps.getD (W.at_ n).kind.toNat []).getD (W.at_ n).pc.toNat ⟨0,0,0,0⟩)
  else endW (kU W n ((ps.getD (W.at_ n).kind.toNat []).getD (W.at_ n).pc.toNat ⟨0,0,0,0⟩)) n (kF W n ((ps.getD (W.at_ n).kind.toNat []).getD (W.at_ n).pc.toNat ⟨0,0,0,0⟩)))
 else match (W.at_ n).box with
  | []=>W
  |v::l=>W.put n ((((W.at_ n).ai 1 v).aK l).aG 0)
noncomputable def iY (ps:List (List Ins)) (W:Wd) (d:ig):Wd:=
 if(W.aa.length:Int)≤d.cK then W
 else if d.kind=1 then stepW ps W d.cK.toNat
 else if d.kind=2 then W.put d.cK.toNat (aS (W.at_ d.cK.toNat))
 else gZ W d.cK d.n d.m
noncomputable def jc (ps:List (List Ins)) (most:Int):Int:=if(jf ps).2.2≠0 then(jf ps).2.2 else if most<2∨60<most then 2 else 0
def fZ (most:Int):Wd:=⟨[dS 0 (-1) ⟨most,[⟨[⟨1,0⟩,⟨1,0⟩],false⟩]⟩ ⟨2,0⟩],[]⟩
noncomputable def runE (ps:List (List Ins)) (most:Int) (l:List ig):Int:=
 if jc ps most≠0 then jc ps most else if 3000<l.length then 1 else match l.find? (fun d=>cO d !=0) with|some d=>cO d|none=>0
noncomputable def runW (ps:List (List Ins)) (most:Int) (l:List ig):Wd:=if runE ps most l≠0 then ⟨[],[]⟩ else l.foldl (iY ps) (fZ most)
end
section
open Go.RowKit
theorem iQ (S:Nat→Prop) (A:Option Addr) (c:Nat) (h:Hp) (v:V) (f:Int) (w:World) (hr:aj obE w S (.slice A h.ah.length c) h.ah):
  Calls Tryd.prog 96 #[.agg #[.int .i64 h.most,.slice A h.ah.length c],.agg #[.int .i64 v.k,.int .i64 v.n],.int .i64 f] w fun e w'=>e= .returned (.tuple #[.agg #[.int .i64 (cz h v f).k,.int .i64 (cz h v f).n],.int .i64 (aH h v f)])∧Below w.heap.size w w':=by
 unfold cz aH;by_cases hE:jC h.most h.ah v f=0
 ·rw[if_pos hE];have Hr:=zG hr;have HE:=zG hE;clear hr hE;have T0:St w.heap.size w ((((w.alloc (.cells #[.int .i64 h.most,.slice A h.ah.length c] 36)).alloc (.cells #[.int .i64 v.k,.int .i64 v.n] 47)).alloc (.cells #[.int .i64 0,.int .i64 0] 47))) [.blk (w.heap.size+1+1) #[.int .i64 0,.int .i64 0] 47,.blk (w.heap.size+1) #[.int .i64 v.k,.int .i64 v.n] 47,.blk w.heap.size #[.int .i64 h.most,.slice A h.ah.length c] 36]:=((((((St.start w (Nat.le_refl _)).new' #[.int .i64 h.most,.slice A h.ah.length c] 36 (w.heap.size) (by simp)).1).new' #[.int .i64 v.k,.int .i64 v.n] 47 (w.heap.size+1) (by simp)).1).new' #[.int .i64 0,.int .i64 0] 47 (w.heap.size+1+1) (by simp)).1;have HT:=zG T0;have hz:w.heap.size+1+1+1≤(((w.alloc (.cells #[.int .i64 h.most,.slice A h.ah.length c] 36)).alloc (.cells #[.int .i64 v.k,.int .i64 v.n] 47)).alloc (.cells #[.int .i64 0,.int .i64 0] 47)).heap.size:=(by simp);clear T0;replace Hr:=zG (Hr.pool (by decide) HT.out);go_enter Tryd.func96,Tryd.ntmps96
  go_upto_region 1 with fail;generalize (((w.alloc (.cells #[.int .i64 h.most,.slice A h.ah.length c] 36)).alloc (.cells #[.int .i64 v.k,.int .i64 v.n] 47)).alloc (.cells #[.int .i64 0,.int .i64 0] 47))=W1 at*;have h_:=HT.rz 3;go_wp2_with fail;have G9:=get_any h.most _ A c h.ah v f W1 Hr.out;rw[HE.out] at G9;refine(G9).mono ?_;rintro en W2 ⟨rfl,hb⟩;clear h_;replace⟨HT,Hr⟩:=sp1 (HT.call hb) Hr.s;replace hz:=Nat.le_trans hz hb.size;clear hb;have h_:=HT.rz 3;clear G9;go_upto_region 2 with fail;replace⟨HT,Hr⟩:=sp1 (HT.new' #[.int .i64 (fP h.most h.ah v f).k,.int .i64 (fP h.most h.ah v f).n] 47 W2.heap.size) Hr.s;replace hz:=HT.zz hz;clear h_;generalize (W2.alloc (.cells #[.int .i64 (fP h.most h.ah v f).k,.int .i64 (fP h.most h.ah v f).n] 47))=W3 at*;have h_:=HT.rz 2;go_wp2_with fail;clear h_;replace⟨HT,Hr⟩:=sp1 (ns1 (HT.dt 1 (.int .i64 (fP h.most h.ah v f).k) (.int .i64 (fP h.most h.ah v f).n) rfl rfl)) Hr.s;replace hz:=HT.zz hz;generalize (W3.setCell ⟨w.heap.size+1+1,0,none⟩ (.int .i64 (fP h.most h.ah v f).k)).setCell ⟨w.heap.size+1+1,1,none⟩ (.int .i64 (fP h.most h.ah v f).n)=W4 at*;have h_:=HT.rz 2;try simp only[Exit.inBlock,Exit.then]
  refine bodyPost_ret (v:= .tuple #[.agg #[.int .i64 (fP h.most h.ah v f).k,.int .i64 (fP h.most h.ah v f).n],.int .i64 0]) (by simp[results,Tryd.results96,go_sem,h_.2.2.2.1]) rfl ?_;exact⟨rfl,HT.below⟩
 ·rw[if_neg hE];by_cases hE':jC h.most h.ah v f=2
  ·rw[if_pos hE'];have hE:=hE';clear hE';have Hr:=zG hr;have HE:=zG hE;clear hr hE;have T0:St w.heap.size w ((((w.alloc (.cells #[.int .i64 h.most,.slice A h.ah.length c] 36)).alloc (.cells #[.int .i64 v.k,.int .i64 v.n] 47)).alloc (.cells #[.int .i64 0,.int .i64 0] 47))) [.blk (w.heap.size+1+1) #[.int .i64 0,.int .i64 0] 47,.blk (w.heap.size+1) #[.int .i64 v.k,.int .i64 v.n] 47,.blk w.heap.size #[.int .i64 h.most,.slice A h.ah.length c] 36]:=((((((St.start w (Nat.le_refl _)).new' #[.int .i64 h.most,.slice A h.ah.length c] 36 (w.heap.size) (by simp)).1).new' #[.int .i64 v.k,.int .i64 v.n] 47 (w.heap.size+1) (by simp)).1).new' #[.int .i64 0,.int .i64 0] 47 (w.heap.size+1+1) (by simp)).1;have HT:=zG T0;have hz:w.heap.size+1+1+1≤(((w.alloc (.cells #[.int .i64 h.most,.slice A h.ah.length c] 36)).alloc (.cells #[.int .i64 v.k,.int .i64 v.n] 47)).alloc (.cells #[.int .i64 0,.int .i64 0] 47)).heap.size:=(by simp);clear T0;replace Hr:=zG (Hr.pool (by decide) HT.out);go_enter Tryd.func96,Tryd.ntmps96
   go_upto_region 1 with fail;generalize (((w.alloc (.cells #[.int .i64 h.most,.slice A h.ah.length c] 36)).alloc (.cells #[.int .i64 v.k,.int .i64 v.n] 47)).alloc (.cells #[.int .i64 0,.int .i64 0] 47))=W1 at*;have h_:=HT.rz 3;go_wp2_with fail;have G9:=get_any h.most _ A c h.ah v f W1 Hr.out;rw[HE.out] at G9;refine(G9).mono ?_;rintro en W2 ⟨rfl,hb⟩;clear h_;replace⟨HT,Hr⟩:=sp1 (HT.call hb) Hr.s;replace hz:=Nat.le_trans hz hb.size;clear hb;have h_:=HT.rz 3;clear G9;go_upto_region 2 with fail;replace⟨HT,Hr⟩:=sp1 (HT.new' #[.int .i64 (fP h.most h.ah v f).k,.int .i64 (fP h.most h.ah v f).n] 47 W2.heap.size) Hr.s;replace hz:=HT.zz hz;clear h_;generalize (W2.alloc (.cells #[.int .i64 (fP h.most h.ah v f).k,.int .i64 (fP h.most h.ah v f).n] 47))=W3 at*;have h_:=HT.rz 2;go_wp2_with fail;clear h_;replace⟨HT,Hr⟩:=sp1 (ns1 (HT.dt 1 (.int .i64 (fP h.most h.ah v f).k) (.int .i64 (fP h.most h.ah v f).n) rfl rfl)) Hr.s;replace hz:=HT.zz hz;generalize (W3.setCell ⟨w.heap.size+1+1,0,none⟩ (.int .i64 (fP h.most h.ah v f).k)).setCell ⟨w.heap.size+1+1,1,none⟩ (.int .i64 (fP h.most h.ah v f).n)=W4 at*;have h_:=HT.rz 2;try simp only[Exit.inBlock,Exit.then]
   refine bodyPost_ret (v:= .tuple #[.agg #[.int .i64 (fP h.most h.ah v f).k,.int .i64 (fP h.most h.ah v f).n],.int .i64 4]) (by simp[results,Tryd.results96,go_sem,h_.2.2.2.1]) rfl ?_;exact⟨rfl,HT.below⟩
  ·rw[if_neg hE'];have hE0:=hE;have hE2:=hE';clear hE hE';obtain⟨E,hE⟩:∃E,jC h.most h.ah v f=E:=⟨_,rfl⟩;rw[hE] at hE0 hE2;have Hr:=zG hr;have HE:=zG hE;clear hr hE;have T0:St w.heap.size w ((((w.alloc (.cells #[.int .i64 h.most,.slice A h.ah.length c] 36)).alloc (.cells #[.int .i64 v.k,.int .i64 v.n] 47)).alloc (.cells #[.int .i64 0,.int .i64 0] 47))) [.blk (w.heap.size+1+1) #[.int .i64 0,.int .i64 0] 47,.blk (w.heap.size+1) #[.int .i64 v.k,.int .i64 v.n] 47,.blk w.heap.size #[.int .i64 h.most,.slice A h.ah.length c] 36]:=((((((St.start w (Nat.le_refl _)).new' #[.int .i64 h.most,.slice A h.ah.length c] 36 (w.heap.size) (by simp)).1).new' #[.int .i64 v.k,.int .i64 v.n] 47 (w.heap.size+1) (by simp)).1).new' #[.int .i64 0,.int .i64 0] 47 (w.heap.size+1+1) (by simp)).1;have HT:=zG T0;have hz:w.heap.size+1+1+1≤(((w.alloc (.cells #[.int .i64 h.most,.slice A h.ah.length c] 36)).alloc (.cells #[.int .i64 v.k,.int .i64 v.n] 47)).alloc (.cells #[.int .i64 0,.int .i64 0] 47)).heap.size:=(by simp);clear T0;replace Hr:=zG (Hr.pool (by decide) HT.out);go_enter Tryd.func96,Tryd.ntmps96
   go_upto_region 1 with fail;generalize (((w.alloc (.cells #[.int .i64 h.most,.slice A h.ah.length c] 36)).alloc (.cells #[.int .i64 v.k,.int .i64 v.n] 47)).alloc (.cells #[.int .i64 0,.int .i64 0] 47))=W1 at*;have h_:=HT.rz 3;go_wp2_with fail;have G9:=get_any h.most _ A c h.ah v f W1 Hr.out;rw[HE.out] at G9;refine(G9).mono ?_;rintro en W2 ⟨rfl,hb⟩;clear h_;replace⟨HT,Hr⟩:=sp1 (HT.call hb) Hr.s;replace hz:=Nat.le_trans hz hb.size;clear hb;have h_:=HT.rz 3;clear G9;go_upto_region 2 with fail;replace⟨HT,Hr⟩:=sp1 (HT.new' #[.int .i64 (fP h.most h.ah v f).k,.int .i64 (fP h.most h.ah v f).n] 47 W2.heap.size) Hr.s;replace hz:=HT.zz hz;clear h_;generalize (W2.alloc (.cells #[.int .i64 (fP h.most h.ah v f).k,.int .i64 (fP h.most h.ah v f).n] 47))=W3 at*;have h_:=HT.rz 2;have e0:(E==0)=false:=(by simpa using hE0);have e2:(E==2)=false:=(by simpa using hE2);go_wp2_with fail;clear h_;replace⟨HT,Hr⟩:=sp1 (ns1 (HT.dt 1 (.int .i64 (fP h.most h.ah v f).k) (.int .i64 (fP h.most h.ah v f).n) rfl rfl)) Hr.s;replace hz:=HT.zz hz;generalize (W3.setCell ⟨w.heap.size+1+1,0,none⟩ (.int .i64 (fP h.most h.ah v f).k)).setCell ⟨w.heap.size+1+1,1,none⟩ (.int .i64 (fP h.most h.ah v f).n)=W4 at*;have h_:=HT.rz 2;try simp only[Exit.inBlock,Exit.then]
   refine bodyPost_ret (v:= .tuple #[.agg #[.int .i64 (fP h.most h.ah v f).k,.int .i64 (fP h.most h.ah v f).n],.int .i64 8]) (by simp[results,Tryd.results96,go_sem,h_.2.2.2.1]) rfl ?_;exact⟨rfl,HT.below⟩
theorem sumS_any (op x y:Int) (ho:op=2∨op=3∨op=4) (hx:aY x=true) (hy:aY y=true) (w:World):Calls Tryd.prog 95 #[.int .i64 op,.int .i64 x,.int .i64 y] w fun e w'=>e= .returned (.int .i64 (jI op x y))∧w=w':=by
 have h1: -1099511627776≤x∧x≤1099511627776:=(by simpa[aY] using hx);have h2: -1099511627776≤y∧y≤1099511627776:=(by simpa[aY] using hy);clear hx hy;obtain⟨a1,a2⟩:=h1;obtain⟨b1,b2⟩:=h2;rcases ho with rfl|rfl|rfl
 ·rw[show jI 2 x y=x+y from rfl];go_enter Tryd.func95,Tryd.ntmps95
  go_wp2
  go_ret
  exact⟨by go_num,rfl⟩
 ·rw[show jI 3 x y=x - y from rfl];go_enter Tryd.func95,Tryd.ntmps95
  go_wp2
  go_ret
  exact⟨by go_num,rfl⟩
 ·by_cases hlt:x<y
  ·rw[show jI 4 x y=1 from if_pos hlt];go_enter Tryd.func95,Tryd.ntmps95
   go_wp2
   go_ret
   exact⟨rfl,rfl⟩
  ·rw[show jI 4 x y=0 from if_neg hlt];go_enter Tryd.func95,Tryd.ntmps95
   go_wp2
   go_ret
   exact⟨rfl,rfl⟩
end
section
open Go.RowKit
set_option maxRecDepth 100000 in
set_option maxHeartbeats 4000000 in
theorem actCheck_any (k ac n m many:Int) (w:World):Calls Tryd.prog 40 #[.agg #[.int .i64 k,.int .i64 ac,.int .i64 n,.int .i64 m],.int .i64 many] w fun e w'=>e= .returned (.int .i64 (cO ⟨k,ac,n,m⟩))∧Below w.heap.size w w':=by
 by_cases h0:k<1
 ·have hd:cO ⟨k,ac,n,m⟩=3:=by
   unfold cO;dsimp only;rw[if_pos (by omega)]
  rw[hd];clear hd;have T0:St w.heap.size w ((w.alloc (.cells #[.int .i64 k,.int .i64 ac,.int .i64 n,.int .i64 m] 51))) [.blk w.heap.size #[.int .i64 k,.int .i64 ac,.int .i64 n,.int .i64 m] 51]:=((St.start w (Nat.le_refl _)).new' #[.int .i64 k,.int .i64 ac,.int .i64 n,.int .i64 m] 51 (w.heap.size) (by simp)).1;have HT:=zG T0;have hz:w.heap.size+1≤(w.alloc (.cells #[.int .i64 k,.int .i64 ac,.int .i64 n,.int .i64 m] 51)).heap.size:=(by simp);clear T0;go_enter Tryd.func40,Tryd.ntmps40
  go_upto_region 1 with fail;generalize (w.alloc (.cells #[.int .i64 k,.int .i64 ac,.int .i64 n,.int .i64 m] 51))=W1 at*;have h_:=HT.rz 1;go_wp2_with fail;go_ret
  exact⟨rfl,HT.below⟩
 ·by_cases h1:k>3
  ·have hd:cO ⟨k,ac,n,m⟩=3:=by
    unfold cO;dsimp only;rw[if_pos (by omega)]
   rw[hd];clear hd;have T0:St w.heap.size w ((w.alloc (.cells #[.int .i64 k,.int .i64 ac,.int .i64 n,.int .i64 m] 51))) [.blk w.heap.size #[.int .i64 k,.int .i64 ac,.int .i64 n,.int .i64 m] 51]:=((St.start w (Nat.le_refl _)).new' #[.int .i64 k,.int .i64 ac,.int .i64 n,.int .i64 m] 51 (w.heap.size) (by simp)).1;have HT:=zG T0;have hz:w.heap.size+1≤(w.alloc (.cells #[.int .i64 k,.int .i64 ac,.int .i64 n,.int .i64 m] 51)).heap.size:=(by simp);clear T0;go_enter Tryd.func40,Tryd.ntmps40
   go_upto_region 1 with fail;generalize (w.alloc (.cells #[.int .i64 k,.int .i64 ac,.int .i64 n,.int .i64 m] 51))=W2 at*;have h_:=HT.rz 1;go_wp2_with fail;go_ret
   exact⟨rfl,HT.below⟩
  ·by_cases h2:ac<0
   ·have hd:cO ⟨k,ac,n,m⟩=2:=by
     unfold cO;dsimp only;rw[if_neg (by omega),if_pos (by omega)]
    rw[hd];clear hd;have T0:St w.heap.size w ((w.alloc (.cells #[.int .i64 k,.int .i64 ac,.int .i64 n,.int .i64 m] 51))) [.blk w.heap.size #[.int .i64 k,.int .i64 ac,.int .i64 n,.int .i64 m] 51]:=((St.start w (Nat.le_refl _)).new' #[.int .i64 k,.int .i64 ac,.int .i64 n,.int .i64 m] 51 (w.heap.size) (by simp)).1;have HT:=zG T0;have hz:w.heap.size+1≤(w.alloc (.cells #[.int .i64 k,.int .i64 ac,.int .i64 n,.int .i64 m] 51)).heap.size:=(by simp);clear T0;go_enter Tryd.func40,Tryd.ntmps40
    go_upto_region 1 with fail;generalize (w.alloc (.cells #[.int .i64 k,.int .i64 ac,.int .i64 n,.int .i64 m] 51))=W3 at*;have h_:=HT.rz 1;go_wp2_with fail;go_ret
    exact⟨rfl,HT.below⟩
   ·by_cases h3:ac≥8
    ·have hd:cO ⟨k,ac,n,m⟩=2:=by
      unfold cO;dsimp only;rw[if_neg (by omega),if_pos (by omega)]
     rw[hd];clear hd;have T0:St w.heap.size w ((w.alloc (.cells #[.int .i64 k,.int .i64 ac,.int .i64 n,.int .i64 m] 51))) [.blk w.heap.size #[.int .i64 k,.int .i64 ac,.int .i64 n,.int .i64 m] 51]:=((St.start w (Nat.le_refl _)).new' #[.int .i64 k,.int .i64 ac,.int .i64 n,.int .i64 m] 51 (w.heap.size) (by simp)).1;have HT:=zG T0;have hz:w.heap.size+1≤(w.alloc (.cells #[.int .i64 k,.int .i64 ac,.int .i64 n,.int .i64 m] 51)).heap.size:=(by simp);clear T0;go_enter Tryd.func40,Tryd.ntmps40
     go_upto_region 1 with fail;generalize (w.alloc (.cells #[.int .i64 k,.int .i64 ac,.int .i64 n,.int .i64 m] 51))=W4 at*;have h_:=HT.rz 1;go_wp2_with fail;go_ret
     exact⟨rfl,HT.below⟩
    ·by_cases h4:n< -1099511627776
     ·have hd:cO ⟨k,ac,n,m⟩=2:=by
       unfold cO;dsimp only;rw[if_neg (by omega),if_pos (by omega)]
      rw[hd];clear hd;have T0:St w.heap.size w ((w.alloc (.cells #[.int .i64 k,.int .i64 ac,.int .i64 n,.int .i64 m] 51))) [.blk w.heap.size #[.int .i64 k,.int .i64 ac,.int .i64 n,.int .i64 m] 51]:=((St.start w (Nat.le_refl _)).new' #[.int .i64 k,.int .i64 ac,.int .i64 n,.int .i64 m] 51 (w.heap.size) (by simp)).1;have HT:=zG T0;have hz:w.heap.size+1≤(w.alloc (.cells #[.int .i64 k,.int .i64 ac,.int .i64 n,.int .i64 m] 51)).heap.size:=(by simp);clear T0;go_enter Tryd.func40,Tryd.ntmps40
      go_upto_region 1 with fail;generalize (w.alloc (.cells #[.int .i64 k,.int .i64 ac,.int .i64 n,.int .i64 m] 51))=W5 at*;have h_:=HT.rz 1;go_wp2_with fail;go_ret
      exact⟨rfl,HT.below⟩
     ·by_cases h5:n>1099511627776
      ·have hd:cO ⟨k,ac,n,m⟩=2:=by
        unfold cO;dsimp only;rw[if_neg (by omega),if_pos (by omega)]
       rw[hd];clear hd;have T0:St w.heap.size w ((w.alloc (.cells #[.int .i64 k,.int .i64 ac,.int .i64 n,.int .i64 m] 51))) [.blk w.heap.size #[.int .i64 k,.int .i64 ac,.int .i64 n,.int .i64 m] 51]:=((St.start w (Nat.le_refl _)).new' #[.int .i64 k,.int .i64 ac,.int .i64 n,.int .i64 m] 51 (w.heap.size) (by simp)).1;have HT:=zG T0;have hz:w.heap.size+1≤(w.alloc (.cells #[.int .i64 k,.int .i64 ac,.int .i64 n,.int .i64 m] 51)).heap.size:=(by simp);clear T0;go_enter Tryd.func40,Tryd.ntmps40
       go_upto_region 1 with fail;generalize (w.alloc (.cells #[.int .i64 k,.int .i64 ac,.int .i64 n,.int .i64 m] 51))=W6 at*;have h_:=HT.rz 1;go_wp2_with fail;go_ret
       exact⟨rfl,HT.below⟩
      ·by_cases h6:m< -1099511627776
       ·have hd:cO ⟨k,ac,n,m⟩=2:=by
         unfold cO;dsimp only;rw[if_neg (by omega),if_pos (by omega)]
        rw[hd];clear hd;have T0:St w.heap.size w ((w.alloc (.cells #[.int .i64 k,.int .i64 ac,.int .i64 n,.int .i64 m] 51))) [.blk w.heap.size #[.int .i64 k,.int .i64 ac,.int .i64 n,.int .i64 m] 51]:=((St.start w (Nat.le_refl _)).new' #[.int .i64 k,.int .i64 ac,.int .i64 n,.int .i64 m] 51 (w.heap.size) (by simp)).1;have HT:=zG T0;have hz:w.heap.size+1≤(w.alloc (.cells #[.int .i64 k,.int .i64 ac,.int .i64 n,.int .i64 m] 51)).heap.size:=(by simp);clear T0;go_enter Tryd.func40,Tryd.ntmps40
        go_upto_region 1 with fail;generalize (w.alloc (.cells #[.int .i64 k,.int .i64 ac,.int .i64 n,.int .i64 m] 51))=W7 at*;have h_:=HT.rz 1;go_wp2_with fail;go_ret
        exact⟨rfl,HT.below⟩
       ·by_cases h7:m>1099511627776
        ·have hd:cO ⟨k,ac,n,m⟩=2:=by
          unfold cO;dsimp only;rw[if_neg (by omega),if_pos (by omega)]
         rw[hd];clear hd;have T0:St w.heap.size w ((w.alloc (.cells #[.int .i64 k,.int .i64 ac,.int .i64 n,.int .i64 m] 51))) [.blk w.heap.size #[.int .i64 k,.int .i64 ac,.int .i64 n,.int .i64 m] 51]:=((St.start w (Nat.le_refl _)).new' #[.int .i64 k,.int .i64 ac,.int .i64 n,.int .i64 m] 51 (w.heap.size) (by simp)).1;have HT:=zG T0;have hz:w.heap.size+1≤(w.alloc (.cells #[.int .i64 k,.int .i64 ac,.int .i64 n,.int .i64 m] 51)).heap.size:=(by simp);clear T0;go_enter Tryd.func40,Tryd.ntmps40
         go_upto_region 1 with fail;generalize (w.alloc (.cells #[.int .i64 k,.int .i64 ac,.int .i64 n,.int .i64 m] 51))=W8 at*;have h_:=HT.rz 1;go_wp2_with fail;go_ret
         exact⟨rfl,HT.below⟩
        ·have hd:cO ⟨k,ac,n,m⟩=0:=by
          unfold cO;dsimp only;rw[if_neg (by omega),if_neg (by omega)]
         rw[hd];clear hd;have T0:St w.heap.size w ((w.alloc (.cells #[.int .i64 k,.int .i64 ac,.int .i64 n,.int .i64 m] 51))) [.blk w.heap.size #[.int .i64 k,.int .i64 ac,.int .i64 n,.int .i64 m] 51]:=((St.start w (Nat.le_refl _)).new' #[.int .i64 k,.int .i64 ac,.int .i64 n,.int .i64 m] 51 (w.heap.size) (by simp)).1;have HT:=zG T0;have hz:w.heap.size+1≤(w.alloc (.cells #[.int .i64 k,.int .i64 ac,.int .i64 n,.int .i64 m] 51)).heap.size:=(by simp);clear T0;go_enter Tryd.func40,Tryd.ntmps40
         go_upto_region 1 with fail;generalize (w.alloc (.cells #[.int .i64 k,.int .i64 ac,.int .i64 n,.int .i64 m] 51))=W9 at*;have h_:=HT.rz 1;go_wp2_with fail;go_ret
         exact⟨rfl,HT.below⟩
end
end Go.Proofs.YtdmocjnjbihloaaDoor
