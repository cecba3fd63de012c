/- What TopUnique asks of an actor, register by register, message by message: plain Lean. No condition; no run. -/
import Derived.Test.YtdmocjnjbihloaaDoorUniqueP
import Derived.Test.YtdmocjnjbihloaaDoorTypes
namespace Go.Proofs.YtdmocjnjbihloaaDoor
open Go.RowKit
def OneO (x:Ac) (o:Int→Nat) (v:V) (who:Nat):Prop:=
 ∃l:List Int,l.length≤60∧(checkN x.heap [v]=0∧mZ x.heap [v]=l)∧∀y∈l,(0≤y∧y<(x.heap.ah.length:Int))∧o y=who∧aV x.heap.ah y=false
theorem one_of {x:Ac} {o:Int→Nat} {v:V} {who:Nat} (hf:x.heap.ah.length≤60) (h:hpB x.heap [v]=true∧∃l,ay x.heap.ah [v]=l∧Told x.heap.ah.length l∧∀y∈l,o y=who∧aV x.heap.ah y=false):OneO x o v who:=by
 obtain⟨hp,l,hl,ht,hy⟩:=h;refine⟨l,Nat.le_trans ht.len hf,⟨lT hp,?_⟩,fun y h=>⟨ht.within y h,hy y h⟩⟩;unfold mZ;rw[if_pos hp];exact hl
theorem uq_of {ps:List (List Ins)} {W:Wd} (hv:(jf ps).2.2=0) (hW:bK ps W) (hS:Sound ps W) {j:Nat} {x:Ac} (hx:W.aa[j]?=some x) (h0:x.fin=0):
  ∃(kk:List Int) (o:Int→Nat),kk.length=8∧x.regs.length=8∧x.box.length≤6∧x.heap.ah.length≤60∧
   ((x.pc<0∧kk= [3,0,0,0,0,0,0,0])∨(0≤x.pc∧∃tl,rQ ps x.kind=(tl,0)∧tl[x.pc.toNat]?=some kk))∧
   (∀(r:Nat) (kr:Int) (v:V),kk[r]?=some kr→x.regs[r]?=some v→(kr=1→v.k=1)∧(kr=2→v.k=2∧OneO x o v 1)∧(kr=3→v.k=2∧OneO x o v (2+r)))∧
   ∀(i:Nat) (v:V),x.box[i]?=some v→OneO x o v (20+i):=by
 obtain⟨_,hk⟩:=hS j x hx;obtain⟨kk,o,hka,ho⟩:=hk h0;have hok:=hW.acs j x hx;have hfew:x.heap.ah.length≤60:=(mF (m:=x.heap.most) (os:=x.heap.ah) hok.heap).few;refine⟨kk,o,ho.k8,hok.regs,hok.box,hfew,?_,fun r kr v hr hv'=>?_,fun i v hi=>one_of hfew (ho.box_one hok hi)⟩
 ·rcases hka with h|⟨h1,h2⟩
  ·exact .inl h
  ·refine .inr ⟨h1,_,?_,h2⟩;have hn:ps[x.kind.toNat]?=some (ps.getD x.kind.toNat []):=by
    have h3:=hok.pV;have h4:=hok.pW;have h5:x.kind.toNat<ps.length:=(by omega);rw[zD h5,List.getD,zD h5];rfl
   have:=typesP_ok (nC hv).1 hn;rwa[show((x.kind.toNat:Nat):Int)=x.kind by have:=hok.pV;omega] at this
 ·have hr8:r<8:=by
   have:=(zE.1 hr).1;have:=ho.k8;omega
  have ha:at8 kk (r:Int)=kr:=(by simp[at8,List.getD,hr]);have hb:x.reg (r:Int)=v:=(by simp[Ac.reg,List.getD,hv']);refine⟨fun e=>?_,fun e=>?_,fun e=>?_⟩
  ·have:=ho.num r hr8 (ha.trans e);rwa[hb] at this
  ·have hg:grp kk r=1:=by
    unfold grp;rw[if_pos (ha.trans e)]
   have:=ho.reg_one hok hr8 (by rw[hg];decide);rw[hb,hg] at this;exact⟨this.1,one_of hfew this.2⟩
  ·have hg:grp kk r=2+r:=by
    unfold grp;rw[if_neg (by rw[ha,e];decide),if_pos (ha.trans e)]
   have:=ho.reg_one hok hr8 (by rw[hg];omega);rw[hb,hg] at this;exact⟨this.1,one_of hfew this.2⟩
end Go.Proofs.YtdmocjnjbihloaaDoor
