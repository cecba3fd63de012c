/- The walk of treadwheeltop.own: what a value leads to gets one owner. Condition: it is there, nobody else's. -/
import Derived.Test.YtdmocjnjbihloaaDoorAlloc
import Derived.Test.YtdmocjnjbihloaaDoorSortI
namespace Go.Proofs.YtdmocjnjbihloaaDoor
open Go.RowKit Go.Maps
abbrev mapRO (P:Program) (kt e:TypeId) (b:Nat) (o:Int→Nat) (m:Nat):Res:=
 .any (fun k=>k=b) (fun w=>∃g:Int→Int,jb P kt e (.int .i64 0) w b m (fun x=> .int .i64 (g x))∧∀x,g x=0∨g x=(o x:Int)) (fun _ _ hk h=>let ⟨g,h1,h2⟩:=h;⟨g,h1.keep (hk b rfl),h2⟩)
section
variable {B:Nat} {w0 w w':World} {R:List Res}
theorem St.mapo (h:St B w0 w R) (i:Nat) {P:Program} {kt e:TypeId} {b m:Nat} {o:Int→Nat} (hi:R[i]?=some (mapRO P kt e b o m)):∃g:Int→Int,jb P kt e (.int .i64 0) w b m (fun x=> .int .i64 (g x))∧∀x,g x=0∨g x=(o x:Int):=h.at_ i hi
theorem St.mapoPut (h:St B w0 w R) (i:Nat) {P:Program} {kt e:TypeId} {b m n:Nat} {o:Int→Nat} (hi:R[i]?=some (mapRO P kt e b o m)) (hg:w.grownBy w' (some b)) (ho:∃g:Int→Int,jb P kt e (.int .i64 0) w' b n (fun x=> .int .i64 (g x))∧∀x,g x=0∨g x=(o x:Int)):
  St B w0 w' (R.set i (mapRO P kt e b o n))∧au w R w' (R.set i (mapRO P kt e b o n)):=
 h.grown i hi (mapRO P kt e b o n) hg (fun _ hb=>by injection hb with hb;exact hb.symm) ho (fun _ hb=> .inl hb)
end
set_option maxRecDepth 100000 in
set_option maxHeartbeats 8000000 in
theorem own_any (B:Nat) (w0 w:World) (R0:List Res) (o:Int→Nat) (mb m:Nat) (x:Ac) (F G K R:Option Addr) (f g k d:Nat) (T:Nat→Prop) (v:V) (l:List Int) (who:Nat) (_hm:m≤10000) (_hw:who≤1000) (hw0:who≠0) (_hn:x.heap.ah.length≤60) (_hl:l.length≤60)
  (hC:checkN x.heap [v]=0∧mZ x.heap [v]=l) (hx:∀y∈l,(0≤y∧y<(x.heap.ah.length:Int))∧o y=who∧aV x.heap.ah y=false)
  (nf:Nat) (h:St B w0 w (mapRO Tryd.prog 3 3 mb o m::R0)) (hr:aj obE w (Fr nf (mapRO Tryd.prog 3 3 mb o m::R0)) (.slice F x.heap.ah.length f) x.heap.ah) (hq:aj vE w T (.slice R 1 d) [v]):
  Calls Tryd.prog 15 #[.agg #[.int .i64 x.kind,.int .i64 x.parent,.int .i64 x.heap.most,.slice F x.heap.ah.length f,.slice G x.regs.length g,.int .i64 x.pc,.slice K x.box.length k,.int .i64 x.fin],.slice R 1 d,.map (some mb),.int .i64 (who:Int)] w fun e w'=>e= .returned (.bool true)∧St B w0 w' (mapRO Tryd.prog 3 3 mb o (m+60)::R0)∧au w (mapRO Tryd.prog 3 3 mb o m::R0) w' (mapRO Tryd.prog 3 3 mb o (m+60)::R0)∧w.heap.size≤w'.heap.size:=by
 have hBb:Below w.heap.size w (w.alloc (.cells #[.int .i64 x.kind,.int .i64 x.parent,.int .i64 x.heap.most,.slice F x.heap.ah.length f,.slice G x.regs.length g,.int .i64 x.pc,.slice K x.box.length k,.int .i64 x.fin] 39)):=(Below.refl _ _).alloc (Nat.le_refl _) _;have GR:=(reachD_any x.heap.most _ T F R f d x.heap.ah [v] _ (hr.below (by decide) hBb) (hq.below (by decide) hBb));unfold ReachD at GR;obtain⟨hC1,hC2⟩:=hC;rw[show checkN ⟨x.heap.most,x.heap.ah⟩ [v]=0 from hC1,show mZ ⟨x.heap.most,x.heap.ah⟩ [v]=l from hC2] at GR;dsimp only[List.length] at GR;have HG:=zG GR;have HX:=zG hx;have HT:=zG h;have hz:w.heap.size≤w.heap.size:=Nat.le_refl _;have HK:Hid (au w (mapRO Tryd.prog 3 3 mb o m::R0) w (mapRO Tryd.prog 3 3 mb o m::R0)):=zG au.refl;have Hr:=zG hr;have e5:((who:Int) !=0)=true:=(by simpa using hw0);clear h hr hq hx hC1 hC2 GR hBb hw0;replace⟨HT,HK,Hr⟩:=sp2 (HT.new' #[.int .i64 x.kind,.int .i64 x.parent,.int .i64 x.heap.most,.slice F x.heap.ah.length f,.slice G x.regs.length g,.int .i64 x.pc,.slice K x.box.length k,.int .i64 x.fin] 39 w.heap.size) (HK.t hz) Hr.s;replace hz:=HT.zz hz;go_enter Tryd.func15,Tryd.ntmps15
 go_upto_region 1 with fail;have h_:=HT.rz 1;go_wp2_with fail;refine HG.mono ?_;rintro en W1 ⟨A1,c1,rfl,h1,hb⟩;clear HG;clear h_;have Hfresh:=zG (HT.out);have hzo:w.heap.size≤((w.alloc (.cells #[.int .i64 x.kind,.int .i64 x.parent,.int .i64 x.heap.most,.slice F x.heap.ah.length f,.slice G x.regs.length g,.int .i64 x.pc,.slice K x.box.length k,.int .i64 x.fin] 39))).heap.size:=(by simp);replace⟨HT,HK,Hr⟩:=sp2 (HT.call hb) (HK.t hz) Hr.s;replace hz:=Nat.le_trans hz hb.size;clear hb;have Hx:Hid (aj iE W1 (Fr w.heap.size (.blk w.heap.size #[.int .i64 x.kind,.int .i64 x.parent,.int .i64 x.heap.most,.slice F x.heap.ah.length f,.slice G x.regs.length g,.int .i64 x.pc,.slice K x.box.length k,.int .i64 x.fin] 39::mapRO Tryd.prog 3 3 mb o m::R0)) (.slice A1 l.length c1) l):=zG (h1.fresh (by first|decide|(show 0<1;omega)) Hfresh.out hzo);clear h1 Hfresh hzo;have h_:=HT.rz 1;go_wp2_with fail;go_loopw [22] (fun i wl1=>∃j m9:Nat,(fun R9:List Res=>i= .int .i64 j∧j≤l.length∧m9≤m+j∧St B w0 wl1 R9∧au w (mapRO Tryd.prog 3 3 mb o m::R0) wl1 R9∧aj obE wl1 (Fr nf R9) (.slice F x.heap.ah.length f) x.heap.ah∧aj iE wl1 (Fr w.heap.size R9) (.slice A1 l.length c1) l∧w.heap.size≤wl1.heap.size) (.blk w.heap.size #[.int .i64 x.kind,.int .i64 x.parent,.int .i64 x.heap.most,.slice F x.heap.ah.length f,.slice G x.regs.length g,.int .i64 x.pc,.slice K x.box.length k,.int .i64 x.fin] 39::mapRO Tryd.prog 3 3 mb o m9::R0)) (fun i _=>l.length - (intOf i).toNat)
 case atStart=>
  refine⟨0,m,?_,?_,?_,HT.out,HK.out,Hr.out,Hx.out,hz⟩
  ·rfl
  ·exact Nat.zero_le _
  ·omega
 case round=>
  generalize wr=wl1 at*;clear HT HK Hr Hx hz;obtain⟨j,m9,rfl,hj,hm9,ht,pHK,pHr,pHx,hz⟩:=hrel;have HT:=zG ht;have HK:Hid (au w (mapRO Tryd.prog 3 3 mb o m::R0) wl1 (.blk w.heap.size #[.int .i64 x.kind,.int .i64 x.parent,.int .i64 x.heap.most,.slice F x.heap.ah.length f,.slice G x.regs.length g,.int .i64 x.pc,.slice K x.box.length k,.int .i64 x.fin] 39::mapRO Tryd.prog 3 3 mb o m9::R0)):=zG pHK;have Hr:Hid (aj obE wl1 (Fr nf (.blk w.heap.size #[.int .i64 x.kind,.int .i64 x.parent,.int .i64 x.heap.most,.slice F x.heap.ah.length f,.slice G x.regs.length g,.int .i64 x.pc,.slice K x.box.length k,.int .i64 x.fin] 39::mapRO Tryd.prog 3 3 mb o m9::R0)) (.slice F x.heap.ah.length f) x.heap.ah):=zG pHr;have Hx:Hid (aj iE wl1 (Fr w.heap.size (.blk w.heap.size #[.int .i64 x.kind,.int .i64 x.parent,.int .i64 x.heap.most,.slice F x.heap.ah.length f,.slice G x.regs.length g,.int .i64 x.pc,.slice K x.box.length k,.int .i64 x.fin] 39::mapRO Tryd.prog 3 3 mb o m9::R0)) (.slice A1 l.length c1) l):=zG pHx;clear ht pHK pHr pHx;by_cases hlt:j<l.length
  ·have i1:(0:Int)≤(j:Int):=(by omega);have i2:(j:Int)<(l.length:Int):=(by omega);obtain⟨q,hq⟩:∃q,l[j]?=some q:=⟨_,zD hlt⟩;obtain⟨⟨q0,q1⟩,q2,q3⟩:=HX.out q (zF hq);obtain⟨n,rfl⟩:=Int.eq_ofNat_of_zero_le q0;obtain⟨ob,hob⟩:∃ob,x.heap.ah[n]?=some ob:=⟨_,zD (by omega)⟩;have hd:ob.dead=false:=by
    unfold aV at q3;rw[show((n:Int)).toNat=n by omega,hob] at q3;exact q3
   obtain⟨rb,ro,rfl,-,-,y0⟩:=Hx.at_i hq;obtain⟨fb,fo,B9,d9,rfl,-,-,-,y1,-⟩:=Hr.at_o hob;rw[hd] at y1;have hwf:=wf60 (i:=(n:Int)) (by omega);clear hq hob hd q3;replace Hr:Hid (aj obE wl1 (Fr nf (.blk w.heap.size #[.int .i64 x.kind,.int .i64 x.parent,.int .i64 x.heap.most,.slice (some ⟨fb,fo,none⟩) x.heap.ah.length f,.slice G x.regs.length g,.int .i64 x.pc,.slice K x.box.length k,.int .i64 x.fin] 39::mapRO Tryd.prog 3 3 mb o m9::R0)) (.slice (some ⟨fb,fo,none⟩) x.heap.ah.length f) x.heap.ah):=Hr;replace Hx:Hid (aj iE wl1 (Fr w.heap.size (.blk w.heap.size #[.int .i64 x.kind,.int .i64 x.parent,.int .i64 x.heap.most,.slice (some ⟨fb,fo,none⟩) x.heap.ah.length f,.slice G x.regs.length g,.int .i64 x.pc,.slice K x.box.length k,.int .i64 x.fin] 39::mapRO Tryd.prog 3 3 mb o m9::R0)) (.slice (some ⟨rb,ro,none⟩) l.length c1) l):=Hx;obtain⟨gf,hmg,hgo⟩:=HT.mapo 1 rfl;have hlk:=hmg.lookup (.inr ⟨_,Tryd.underlying3⟩) Tryd.underlying3 Tryd.underlying45 (zeroI _) hwf;have HG0:=zG hgo;have HM:=zG hmg;have hg1:=hgo (n:Int);rw[q2] at hg1;clear hmg hgo;have h_:=HT.rz 1;rcases hg1 with e0|e0
   focus
    rw[e0] at hlk;clear e0;go_upto_region 7 with fail
   rotate_left;focus
    rw[e0] at hlk;clear e0;go_upto_region 7 with fail
   all_goals (
    clear hlk y0 y1;have hw9:(Lit.int .i64 (who:Int)).wf=true:=WalkArith.wf_i64 (by omega);go_wp2_with (at_mapUpdate;go_loud (refine jW _ rfl _ _ _ 45 rfl 3 3 (.int .i64 0) mb m9 _ Tryd.underlying3 Tryd.underlying45 rfl HM.out (by unfold maxLen;omega) (n:Int) (.int .i64 (who:Int)) rfl rfl hwf _ (plainElem_int Tryd.underlying3 hw9) ?next))
    case next=>
     intro w2 hm2 hg2;clear h_;have hm3:∃g9:Int→Int,jb Tryd.prog 3 3 (.int .i64 0) w2 mb (m9+1) (fun y=> .int .i64 (g9 y))∧∀y,g9 y=0∨g9 y=(o y:Int):=by
      refine⟨fun y=>if y=(n:Int) then(who:Int) else gf y,?_,fun y=>?_⟩
      ·refine hm2.congr (fun y _=>?_);dsimp only;split<;>rfl
      ·dsimp only;split
       ·rename_i hy
        exact .inr (by rw[hy,q2])
       ·exact HG0.out y
     replace⟨HT,HK,Hr,Hx⟩:=sp3 (ns1 (HT.mapoPut 1 rfl hg2 hm3)) (HK.t hz) Hr.s Hx.s;replace hz:=Nat.le_trans hz hg2.size;clear hm2 hm3 hg2 HM HG0;have h_:=HT.rz 1;go_wp2_with fail;clear h_;go_roundw
     case rel=>
      refine⟨j+1,m9+1,?_,?_,?_,HT.out,HK.out,Hr.out,Hx.out,hz⟩
      ·go_num
      ·omega
      ·omega
     case measure=>simp[intOf];omega)
  ·have i2:¬(j:Int)<(l.length:Int):=(by omega);have h_:=HT.rz 1;go_wp2_with fail;clear h_;replace⟨HT,HK,Hr,Hx⟩:=sp3 (nd0 (HT.drop 0)) (HK.t hz) Hr.s Hx.s;obtain⟨g9,hm8,hg8⟩:=HT.mapo 0 rfl;replace⟨HT,HK,Hr,Hx⟩:=sp3 (HT.mapoPut (n:=m+60) 0 rfl (World.grownBy.refl _ _) ⟨g9,hm8.mono (by omega),hg8⟩) (HK.t hz) Hr.s Hx.s;refine zJ ?_;exact⟨rfl,HT.out,HK.out,hz⟩
end Go.Proofs.YtdmocjnjbihloaaDoor
