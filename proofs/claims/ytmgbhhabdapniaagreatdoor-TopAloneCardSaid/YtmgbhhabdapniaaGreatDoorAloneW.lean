/- The walks of slices.Contains and treadwheeltop.alone. Condition: the table is there; the world may be. -/
import Derived.Test.YtmgbhhabdapniaaGreatDoorActCopy
import Derived.Test.YtmgbhhabdapniaaGreatDoorActM
import Derived.Test.YtmgbhhabdapniaaGreatDoorDoW
namespace Go.Proofs.YtmgbhhabdapniaaGreatDoor
section
open Go.RowKit
set_option maxHeartbeats 2000000 in
theorem indexI_any (S:Nat→Prop) (A:Option Addr) (c:Nat) (l:List Int) (n:Int) (w:World) (hl:aj iE w S (.slice A l.length c) l):
  Calls Tryz.prog 79 #[.slice A l.length c,.int .i64 n] w fun e w'=>∃r:Int,e= .returned (.int .i64 r)∧decide (0≤r)=decide (n∈l)∧w'=w:=by
 obtain⟨-,g1,g2,g3⟩:=hl.fw;have Hl:=zG hl;clear hl g3;go_enter Tryz.func79,Tryz.ntmps79
 go_wp2
 go_loopw [5,8] (fun _ i wr=>∃k:Nat,k≤l.length∧i= .int .i64 k∧n∉l.take k∧wr=w) (fun _ i _=>l.length - (intOf i).toNat)
 case atStart=>exact⟨0,by omega,rfl,by simp,rfl⟩
 case round=>
  obtain⟨k,hk,rfl,hni,rfl⟩:=hrel;by_cases hlt:k<l.length
  ·obtain⟨x,hx⟩:∃x,l[k]?=some x:=⟨l[k],zD hlt⟩;obtain⟨b,o,rfl,_,_,y0⟩:=Hl.at_i hx;have i1:(0:Int)≤(k:Int):=(by omega);have i2:(k:Int)<(l.length:Int):=(by omega);have Hx:=zG hx;have Hni:=zG hni;clear hx hni;by_cases hxn:n=x
   ·subst hxn;have hb:(n==n)=true:=(by simp);have Hm:=zG (zF Hx.out);go_wp2
    go_ret
    exact⟨_,rfl,by simp[Hm.out],rfl⟩
   ·have hb:(n==x)=false:=(by simpa using hxn);go_wp2
    go_roundw
    case rel=>
     refine⟨k+1,by omega,by go_num,?_,by simp⟩;rw[List.take_add_one,Hx.out];intro h;rcases List.mem_append.1 h with h|h
     ·exact Hni.out h
     ·simp at h;exact hxn h
    case measure=>simp[intOf];omega
  ·have hx:l.take k=l:=List.take_of_length_le (by omega);rw[hx] at hni;have Hni:=zG hni;clear hni hx;go_wp2
   go_ret
   exact⟨_,rfl,by simp[Hni.out],rfl⟩
set_option maxHeartbeats 400000 in
theorem containsI_is (S:Nat→Prop) (A:Option Addr) (c:Nat) (l:List Int) (n:Int) (w:World) (r:Bool) (hr:decide (n∈l)=r) (hl:aj iE w S (.slice A l.length c) l):
  Calls Tryz.prog 42 #[.slice A l.length c,.int .i64 n] w fun e w'=>e= .returned (.bool r)∧w'=w:=by
 have Hl:=zG hl;have Hr:=zG hr;clear hl hr;go_enter Tryz.func42,Tryz.ntmps42
 go_wp2_with fail;refine(indexI_any S A c l n _ Hl.out).mono ?_;rintro e w' ⟨q,rfl,hd,rfl⟩;have Hd:=zG hd;clear hd;go_wp2_with fail;go_ret
 exact⟨ret_bool (by rw[Hd.out,Hr.out]),rfl⟩
end
section
open Go.RowKit
section
variable {ps:List (List Ins)} {W W':Wd} {n m:Nat}
theorem step_out (h:W.aa.length≤n):iY ps W ⟨1,n,0,0⟩=W:=if_pos (by show(W.aa.length:Int)≤(n:Int);omega)
theorem step_in (h:n<W.aa.length):iY ps W ⟨1,n,0,0⟩=stepW ps W n:=by
 unfold iY;rw[if_neg (by show ¬((W.aa.length:Int)≤(n:Int));omega),if_pos rfl];rfl
def QuietA (W:Wd) (n:Nat):Prop:=W.aa.length≤n∨(W.at_ n).fin≠0
def LoneA (ps:List (List Ins)) (W:Wd) (n:Nat):Prop:=n<W.aa.length∧(W.at_ n).fin=0∧(0≤(W.at_ n).pc→loudB (insAt ps (W.at_ n)).op=false∧fA (W.at_ n) (insAt ps (W.at_ n))=0)
noncomputable def aloneB (ps:List (List Ins)) (W:Wd) (n:Nat):Bool:=
 if W.aa.length≤n∨(W.at_ n).fin≠0 then true else if 0≤(W.at_ n).pc∧loudB (insAt ps (W.at_ n)).op=true then false else((iY ps W ⟨1,n,0,0⟩).at_ n).fin==0
theorem quiet_act (h:QuietA W n):iY ps W ⟨1,n,0,0⟩=W:=by
 by_cases hn:W.aa.length≤n
 ·exact step_out hn
 ·rw[step_in (by omega)];exact ended_step (h.resolve_left hn)
theorem lone_act (h:LoneA ps W n):iY ps W ⟨1,n,0,0⟩=W.put n (stepA ps n (W.at_ n)):=by
 rw[step_in h.1];exact alone_keep h.1 h.2.2 h.2.1
theorem alone_split (h:aloneB ps W n=true):QuietA W n∨LoneA ps W n:=by
 unfold aloneB at h;split at h
 ·rename_i hq;exact .inl hq
 ·rename_i hq
  have hl:n<W.aa.length:=by
   by_cases hx:W.aa.length≤n
   ·exact absurd (.inl hx) hq
   ·omega
  have hf:(W.at_ n).fin=0:=by
   by_cases hx:(W.at_ n).fin=0
   ·exact hx
   ·exact absurd (.inr hx) hq
  split at h
  ·cases h
  ·rename_i hp
   have h0:0≤(W.at_ n).pc→loudB (insAt ps (W.at_ n)).op=false:=fun hx=>by
    cases hb:loudB (insAt ps (W.at_ n)).op with
    |false=>rfl
    |true=>exact absurd ⟨hx,hb⟩ hp
   rw[step_in hl] at h;obtain⟨-,h2⟩:=alone_step hl h0 hf (by simpa using h);exact .inr ⟨hl,hf,fun hx=>⟨h0 hx,h2 hx⟩⟩
theorem QuietA.keep (h:QuietA W n) (hl:W'.aa.length=W.aa.length) (ha:W'.at_ n=W.at_ n):QuietA W' n:=by unfold QuietA;rw[hl,ha];exact h
theorem LoneA.keep (h:LoneA ps W n) (hl:W'.aa.length=W.aa.length) (ha:W'.at_ n=W.at_ n):LoneA ps W' n:=by unfold LoneA;rw[hl,ha];exact h
theorem put_len {a:Ac}:(W.put n a).aa.length=W.aa.length:=by simp[Wd.put]
theorem alone_rest (h:aloneB ps W n=true):(iY ps W ⟨1,n,0,0⟩).aa.length=W.aa.length∧(iY ps W ⟨1,n,0,0⟩).prints=W.prints∧∀i,i≠n→(iY ps W ⟨1,n,0,0⟩).at_ i=W.at_ i:=by
 rcases alone_split h with h|h
 ·rw[quiet_act h];exact⟨rfl,rfl,fun _ _=>rfl⟩
 ·rw[lone_act h];exact⟨put_len,rfl,fun i hi=>at_put_ne hi⟩
end
end
section
open Go.RowKit
set_option maxRecDepth 100000 in
set_option maxHeartbeats 8000000 in
theorem alone_any (S T U:Nat→Prop) (A9:Option Addr) (c9:Nat) (ps:List (List Ins)) (A:Option Addr) (c:Nat) (Bp:Option Addr) (d:Nat) (V:Wd) (n:Nat) (w:World) (hu:dV w) (hp:aj pgE w S (.slice A9 ps.length c9) ps) (ha:aj acE w T (.slice A V.aa.length c) V.aa) (ht:aj tdE w U (.slice Bp V.prints.length d) V.prints)
  (hv:(jf ps).2.2=0) (hok:bK ps V):
  Calls Tryz.prog 19 #[.agg #[.slice A9 ps.length c9],.agg #[.slice A V.aa.length c,.slice Bp V.prints.length d],.int .i64 (n:Int)] w fun e w'=>e= .returned (.bool (aloneB ps V n))∧Below w.heap.size w w':=by
 have Hu:=zG hu;have Hp:=zG hp;have Ha:=zG ha;have Ht:=zG ht;have HV:=zG hv;have HOK:=zG hok;clear hu hp ha ht hv hok;have T0:St w.heap.size w (((w.alloc (.cells #[.slice A9 ps.length c9] 24)).alloc (.cells #[.slice A V.aa.length c,.slice Bp V.prints.length d] 29))) [.blk (w.heap.size+1) #[.slice A V.aa.length c,.slice Bp V.prints.length d] 29,.blk w.heap.size #[.slice A9 ps.length c9] 24]:=((((St.start w (Nat.le_refl _)).new' #[.slice A9 ps.length c9] 24 (w.heap.size) (by simp)).1).new' #[.slice A V.aa.length c,.slice Bp V.prints.length d] 29 (w.heap.size+1) (by simp)).1;have HT:=zG T0;have hz:w.heap.size+1+1≤((w.alloc (.cells #[.slice A9 ps.length c9] 24)).alloc (.cells #[.slice A V.aa.length c,.slice Bp V.prints.length d] 29)).heap.size:=(by simp);replace Hp:=zG (Hp.pool (by decide) T0);replace Ha:=zG (Ha.pool (by decide) T0);replace Ht:=zG (Ht.pool (by decide) T0);clear T0;go_enter Tryz.func19,Tryz.ntmps19
 go_upto_region 1 with fail;generalize ((w.alloc (.cells #[.slice A9 ps.length c9] 24)).alloc (.cells #[.slice A V.aa.length c,.slice Bp V.prints.length d] 29))=W1 at*;have h_:=HT.rz 2;by_cases hA:V.aa.length≤n
 ·have i1:(n:Int)≥(V.aa.length:Int):=(by omega);clear h_;have h_:=HT.rz 1;go_wp2_with fail;go_ret
  exact⟨by unfold aloneB;rw[if_pos (.inl hA)];(first|done|rfl),HT.below⟩
 ·have i1:¬(n:Int)≥(V.aa.length:Int):=(by omega);have i2:(n:Int)<(V.aa.length:Int):=(by omega);have i0:(0:Int)≤(n:Int):=(by omega);obtain⟨a,hxa⟩:∃a,V.aa[n]?=some a:=⟨_,zD (by omega)⟩;have hat:V.at_ n=a:=aP hxa;have hok9:=HOK.acs n a hxa;obtain⟨ba,oa,F,f,G,g,K,k9,rfl,_,_,y0,y1,y2,y3,y4,y5,y6,y7,-,-,-⟩:=Ha.at_a hxa;have HAT:=zG hat;have HO9:=zG hok9;clear hxa hat hok9;by_cases hf0:a.fin=0
  ·have e1:(a.fin !=0)=false:=(by simpa using hf0);clear h_;have h_:=HT.rz 1;go_wp2_with fail;replace⟨HT,Hp,Ha,Ht⟩:=sp3 (HT.new' #[.int .i64 a.kind,.int .i64 a.parent,.int .i64 a.heap.most,.slice F a.heap.ah.length f,.slice G a.regs.length g,.int .i64 a.pc,.slice K a.box.length k9,.int .i64 0] 54 W1.heap.size) Hp.s Ha.s Ht.s;replace hz:=HT.zz hz;clear h_;generalize (W1.alloc (.cells #[.int .i64 a.kind,.int .i64 a.parent,.int .i64 a.heap.most,.slice F a.heap.ah.length f,.slice G a.regs.length g,.int .i64 a.pc,.slice K a.box.length k9,.int .i64 0] 54))=W2 at*;clear y0 y1 y2 y3 y4 y5 y6 y7;by_cases hpc:0≤a.pc
   ·have p1:a.pc≥0:=(by omega);obtain⟨Kk,hKk⟩:=Int.eq_ofNat_of_zero_le HO9.pV;obtain⟨Pp,hPp⟩:=Int.eq_ofNat_of_zero_le hpc;have k1:=HO9.pW;have k2:=HO9.pc1;rw[hKk] at k1 k2;rw[hPp] at k2;rw[Int.toNat_natCast] at k2;obtain⟨lc,hlc⟩:∃lc,ps[Kk]?=some lc:=⟨_,zD (by omega)⟩;rw[getD_some hlc] at k2;obtain⟨ix,hix⟩:∃ix,lc[Pp]?=some ix:=⟨_,zD (by omega)⟩;have hin:insAt ps a=ix:=(by unfold insAt;rw[hKk,hPp,Int.toNat_natCast,Int.toNat_natCast,getD_some hlc,getD_some hix]);have hp9:aj pgE W2 (Fr 0 [.blk W1.heap.size #[.int .i64 a.kind,.int .i64 a.parent,.int .i64 a.heap.most,.slice F a.heap.ah.length f,.slice G a.regs.length g,.int .i64 a.pc,.slice K a.box.length k9,.int .i64 0] 54,.blk (w.heap.size+1) #[.slice (some ⟨ba,oa,none⟩) V.aa.length c,.slice Bp V.prints.length d] 29,.blk w.heap.size #[.slice A9 ps.length c9] 24]) (.slice A9 ps.length c9) ps:=Hp.out;obtain⟨pb,po,Bl,dl,rfl,-,-,z0,hrl⟩:=hp9.at_s hlc;obtain⟨lb,lo,rfl,-,-,x0,-,-,-⟩:=hrl.at_n hix;obtain⟨rr,hrr⟩:∃r,decide (ix.op∈([13,14,15,17,19]:List Int))=r:=⟨_,rfl⟩;have hlr:loudB ix.op=rr:=(by rw[←hrr];unfold loudB;rw[Bool.eq_iff_iff];simp[or_assoc]);have j1:(0:Int)≤(Kk:Int):=(by omega);have j2:(Kk:Int)<(ps.length:Int):=(by omega);have j3:(0:Int)≤(Pp:Int):=(by omega);have j4:(Pp:Int)<(lc.length:Int):=(by omega);have HIN:=zG hin;have HRR:=zG hrr;have HLR:=zG hlr;have HKk:=zG hKk;have HPp:=zG hPp;clear hin hrr hlr hlc hix hrl hp9;have ht9:=HT.out;have p9Hp:=Hp.out;have p9Ha:=Ha.out;have p9Ht:=Ht.out;rw[hKk,hPp] at ht9 p9Hp p9Ha p9Ht;replace HT:Hid (St w.heap.size w W2 [.blk W1.heap.size #[.int .i64 (Kk:Int),.int .i64 a.parent,.int .i64 a.heap.most,.slice F a.heap.ah.length f,.slice G a.regs.length g,.int .i64 (Pp:Int),.slice K a.box.length k9,.int .i64 0] 54,.blk (w.heap.size+1) #[.slice (some ⟨ba,oa,none⟩) V.aa.length c,.slice Bp V.prints.length d] 29,.blk w.heap.size #[.slice (some ⟨pb,po,none⟩) ps.length c9] 24]):=zG ht9;replace Hp:Hid (aj pgE W2 (Fr 0 [.blk W1.heap.size #[.int .i64 (Kk:Int),.int .i64 a.parent,.int .i64 a.heap.most,.slice F a.heap.ah.length f,.slice G a.regs.length g,.int .i64 (Pp:Int),.slice K a.box.length k9,.int .i64 0] 54,.blk (w.heap.size+1) #[.slice (some ⟨ba,oa,none⟩) V.aa.length c,.slice Bp V.prints.length d] 29,.blk w.heap.size #[.slice (some ⟨pb,po,none⟩) ps.length c9] 24]) (.slice (some ⟨pb,po,none⟩) ps.length c9) ps):=zG p9Hp;replace Ha:Hid (aj acE W2 (Fr 0 [.blk W1.heap.size #[.int .i64 (Kk:Int),.int .i64 a.parent,.int .i64 a.heap.most,.slice F a.heap.ah.length f,.slice G a.regs.length g,.int .i64 (Pp:Int),.slice K a.box.length k9,.int .i64 0] 54,.blk (w.heap.size+1) #[.slice (some ⟨ba,oa,none⟩) V.aa.length c,.slice Bp V.prints.length d] 29,.blk w.heap.size #[.slice (some ⟨pb,po,none⟩) ps.length c9] 24]) (.slice (some ⟨ba,oa,none⟩) V.aa.length c) V.aa):=zG p9Ha;replace Ht:Hid (aj tdE W2 (Fr 0 [.blk W1.heap.size #[.int .i64 (Kk:Int),.int .i64 a.parent,.int .i64 a.heap.most,.slice F a.heap.ah.length f,.slice G a.regs.length g,.int .i64 (Pp:Int),.slice K a.box.length k9,.int .i64 0] 54,.blk (w.heap.size+1) #[.slice (some ⟨ba,oa,none⟩) V.aa.length c,.slice Bp V.prints.length d] 29,.blk w.heap.size #[.slice (some ⟨pb,po,none⟩) ps.length c9] 24]) (.slice Bp V.prints.length d) V.prints):=zG p9Ht;rw[hPp] at p1;clear hKk hPp k1 k2 ht9 p9Hp p9Ha p9Ht;obtain⟨r_a,q_a,-,-,r_p,q_p,-⟩:=HT.rules;have z_a:W1.heap.size<W2.heap.size:=(HT.in_ 0 rfl rfl).2;have z_p:w.heap.size<W2.heap.size:=(HT.in_ 2 rfl rfl).2;go_upto_region 4 with fail;refine av [.still [0,1,2,3,5,6,7,8,9,10,11,12,13,14,15],.loud 4 [5,6,7,8,9,10,11,12,13,14,15],.loud 16 [],.still [17]] (by kernel_rfl) (by kernel_rfl) ?_;refine ps_ ?_;repeat still_step
    refine zH ?_;refine pl_ ?_;go_wp2_with fail;go_wp2_with fail;replace⟨HT,Hp,Ha,Ht⟩:=sp3 (HT.new' #[.int .i64 13,.int .i64 14,.int .i64 15,.int .i64 17,.int .i64 19] 3 W2.heap.size) Hp.s Ha.s Ht.s;replace hz:=HT.zz hz;replace z0:=nK z0 (.cells #[.int .i64 13,.int .i64 14,.int .i64 15,.int .i64 17,.int .i64 19] 3);replace x0:=nK x0 (.cells #[.int .i64 13,.int .i64 14,.int .i64 15,.int .i64 17,.int .i64 19] 3);clear r_a q_a r_p q_p z_a z_p;generalize (W2.alloc (.cells #[.int .i64 13,.int .i64 14,.int .i64 15,.int .i64 17,.int .i64 19] 3))=W6 at*;obtain⟨-,-,r_a,q_a,-,-,r_p,q_p,-⟩:=HT.rules;have z_a:W1.heap.size<W6.heap.size:=(HT.in_ 1 rfl rfl).2;have z_p:w.heap.size<W6.heap.size:=(HT.in_ 3 rfl rfl).2;refine ag_ ?_;refine pl_ ?_;go_wp2_with fail;replace⟨HT,Hp,Ha,Ht⟩:=sp3 HT.drew' Hp.s Ha.s Ht.s;replace hz:=HT.zz hz;have hs9:aj iE W6.drew (fun _=>True) (.slice (some ⟨W2.heap.size,0,none⟩) 5 5) [13,14,15,17,19]:=rT (E:=iE) (css:=ics [13,14,15,17,19]) (HT.heap 0 rfl) trivial (ics_held _) rfl (by show 5*8≤140737488355328;decide) (by show 5≤maxLen;decide) 5 rfl;refine(containsI_is _ _ _ [13,14,15,17,19] ix.op _ rr HRR.out hs9).mono ?_;rintro en W' ⟨rfl,rfl⟩;clear hs9;go_wp2_with fail;refine⟨trivial,?_⟩;refine ps_ ?_;repeat still_step
    refine zH ?_;refine zI ?_;clear z0 x0;clear r_a q_a r_p q_p z_a z_p;generalize W6.drew=W7 at*;replace⟨HT,Hp,Ha,Ht⟩:=sp3 (nd0 (HT.drop 0)) Hp.s Ha.s Ht.s;by_cases hrt:rr=true
    ·subst hrt;go_wp2_with fail;go_ret
     exact⟨by unfold aloneB;rw[if_neg (by rintro (h|h);omega;exact h (by rw[HAT.out];exact hf0)),if_pos (by rw[HAT.out,HIN.out,HLR.out];exact⟨hpc,rfl⟩)];(first|done|rfl),HT.below⟩
    ·obtain rfl:rr=false:=(by simpa using hrt);have hl9:¬(0≤(V.at_ n).pc∧loudB (insAt ps (V.at_ n)).op=true):=by rw[HAT.out,HIN.out,HLR.out];exact fun h=>by cases h.2
     have HL:=zG hl9;clear hl9 hrt;have hn9:n<V.aa.length:=(by omega);obtain⟨X1,hX1⟩:∃X,iY ps V ⟨1,(n:Int),0,0⟩=X:=⟨_,rfl⟩;have hmo:More V X1:=(by rw[←hX1];exact act_more _);have hdf:cO ⟨1,(n:Int),0,0⟩=0:=(by have:=HOK.few;unfold cO;dsimp only;rw[if_neg (by omega),if_neg (by omega)]);have GD9:=doOk_any _ _ _ _ c9 ps _ c V.aa Bp d V.prints 1 n 0 0 W7 (Hu.below HT.below) Hp.out Ha.out Ht.out (worldE_ok HV.out HOK.out) hdf;rw[show iY ps ⟨V.aa,V.prints⟩ ⟨1,(n:Int),0,0⟩=X1 from hX1] at GD9;unfold RunD at GD9;have HG9:=zG GD9;obtain⟨b9,hb9⟩:∃b,X1.aa[n]?=some b:=⟨_,zD (by have:=hmo.len0;omega)⟩;have HB9:=zG hb9;have HX1:=zG hX1;have i3:(n:Int)<(X1.aa.length:Int):=(by have:=hmo.len0;omega);clear GD9 hX1 hb9 hmo hdf hn9;obtain⟨-,-,r_v,q_v,r_p,q_p,-⟩:=HT.rules;have z_v:w.heap.size+1<W7.heap.size:=(HT.in_ 1 rfl rfl).2;have z_p:w.heap.size<W7.heap.size:=(HT.in_ 2 rfl rfl).2;go_wp2_with fail;refine(HG9.out).mono ?_;rintro en W8 ⟨A7,c7,B7,d7,rfl,hra,hrt,hb⟩;clear r_v q_v r_p q_p z_v z_p;have Hfresh:=zG (HT.out);have hzo:w.heap.size≤W7.heap.size:=(by omega);replace⟨HT,Hp,Ha,Ht⟩:=sp3 (HT.call hb) Hp.s Ha.s Ht.s;replace hz:=Nat.le_trans hz hb.size;clear hb;have Hx:=zG (hra.fresh (by first|decide|(show 0<1;omega)) Hfresh.out hzo);clear hra;have Hy:=zG (hrt.fresh (by first|decide|(show 0<1;omega)) Hfresh.out hzo);clear hrt;clear Hfresh hzo;obtain⟨-,-,r_v,q_v,r_p,q_p,-⟩:=HT.rules;have z_v:w.heap.size+1<W8.heap.size:=(HT.in_ 1 rfl rfl).2;have z_p:w.heap.size<W8.heap.size:=(HT.in_ 2 rfl rfl).2;clear HG9;obtain⟨bb,ob,F2,f2,G2,g2,K2,k2,rfl,_,_,-,-,-,-,-,-,-,z7,-,-,-⟩:=Hx.at_a HB9.out;go_upto_region 7 with fail;replace⟨HT,Hp,Ha,Ht,Hx,Hy⟩:=sp5 (HT.new' #[.slice (some ⟨bb,ob,none⟩) X1.aa.length c7,.slice B7 X1.prints.length d7] 29 W8.heap.size) Hp.s Ha.s Ht.s Hx.s Hy.s;replace hz:=HT.zz hz;replace z7:=nK z7 (.cells #[.slice (some ⟨bb,ob,none⟩) X1.aa.length c7,.slice B7 X1.prints.length d7] 29);clear r_v q_v r_p q_p z_v z_p;generalize (W8.alloc (.cells #[.slice (some ⟨bb,ob,none⟩) X1.aa.length c7,.slice B7 X1.prints.length d7] 29))=W9 at*;have h_:=HT.rz 1;go_wp2_with fail;go_ret
     exact⟨by unfold aloneB;rw[if_neg (by rintro (h|h);omega;exact h (by rw[HAT.out];exact hf0)),if_neg HL.out,HX1.out,aP HB9.out];(first|done|rfl),HT.below⟩
   ·have p1:¬a.pc≥0:=(by omega);have hl9:¬(0≤(V.at_ n).pc∧loudB (insAt ps (V.at_ n)).op=true):=(by rw[HAT.out];exact fun h=>hpc h.1);have HL:=zG hl9;clear hl9;have h_:=HT.rz 1;go_upto_region 4 with fail;go_quiet (fail)
    replace⟨HT,Hp,Ha,Ht⟩:=sp3 (HT.drewN9 nq) Hp.s Ha.s Ht.s;replace hz:=HT.zz hz;clear h_;generalize (W2.drewN nq)=W3 at*;have h_:=HT.rz 1;have hn9:n<V.aa.length:=(by omega);obtain⟨X1,hX1⟩:∃X,iY ps V ⟨1,(n:Int),0,0⟩=X:=⟨_,rfl⟩;have hmo:More V X1:=(by rw[←hX1];exact act_more _);have hdf:cO ⟨1,(n:Int),0,0⟩=0:=(by have:=HOK.few;unfold cO;dsimp only;rw[if_neg (by omega),if_neg (by omega)]);have GD9:=doOk_any _ _ _ A9 c9 ps _ c V.aa Bp d V.prints 1 n 0 0 W3 (Hu.below HT.below) Hp.out Ha.out Ht.out (worldE_ok HV.out HOK.out) hdf;rw[show iY ps ⟨V.aa,V.prints⟩ ⟨1,(n:Int),0,0⟩=X1 from hX1] at GD9;unfold RunD at GD9;have HG9:=zG GD9;obtain⟨b9,hb9⟩:∃b,X1.aa[n]?=some b:=⟨_,zD (by have:=hmo.len0;omega)⟩;have HB9:=zG hb9;have HX1:=zG hX1;have i3:(n:Int)<(X1.aa.length:Int):=(by have:=hmo.len0;omega);clear GD9 hX1 hb9 hmo hdf hn9;clear h_;obtain⟨-,-,r_v,q_v,r_p,q_p,-⟩:=HT.rules;have z_v:w.heap.size+1<W3.heap.size:=(HT.in_ 1 rfl rfl).2;have z_p:w.heap.size<W3.heap.size:=(HT.in_ 2 rfl rfl).2;go_wp2_with fail;refine(HG9.out).mono ?_;rintro en W4 ⟨A7,c7,B7,d7,rfl,hra,hrt,hb⟩;clear r_v q_v r_p q_p z_v z_p;have Hfresh:=zG (HT.out);have hzo:w.heap.size≤W3.heap.size:=(by omega);replace⟨HT,Hp,Ha,Ht⟩:=sp3 (HT.call hb) Hp.s Ha.s Ht.s;replace hz:=Nat.le_trans hz hb.size;clear hb;have Hx:=zG (hra.fresh (by first|decide|(show 0<1;omega)) Hfresh.out hzo);clear hra;have Hy:=zG (hrt.fresh (by first|decide|(show 0<1;omega)) Hfresh.out hzo);clear hrt;clear Hfresh hzo;obtain⟨-,-,r_v,q_v,r_p,q_p,-⟩:=HT.rules;have z_v:w.heap.size+1<W4.heap.size:=(HT.in_ 1 rfl rfl).2;have z_p:w.heap.size<W4.heap.size:=(HT.in_ 2 rfl rfl).2;clear HG9;obtain⟨bb,ob,F2,f2,G2,g2,K2,k2,rfl,_,_,-,-,-,-,-,-,-,z7,-,-,-⟩:=Hx.at_a HB9.out;go_upto_region 7 with fail;replace⟨HT,Hp,Ha,Ht,Hx,Hy⟩:=sp5 (HT.new' #[.slice (some ⟨bb,ob,none⟩) X1.aa.length c7,.slice B7 X1.prints.length d7] 29 W4.heap.size) Hp.s Ha.s Ht.s Hx.s Hy.s;replace hz:=HT.zz hz;replace z7:=nK z7 (.cells #[.slice (some ⟨bb,ob,none⟩) X1.aa.length c7,.slice B7 X1.prints.length d7] 29);clear r_v q_v r_p q_p z_v z_p;generalize (W4.alloc (.cells #[.slice (some ⟨bb,ob,none⟩) X1.aa.length c7,.slice B7 X1.prints.length d7] 29))=W5 at*;have h_:=HT.rz 1;go_wp2_with fail;go_ret
    exact⟨by unfold aloneB;rw[if_neg (by rintro (h|h);omega;exact h (by rw[HAT.out];exact hf0)),if_neg HL.out,HX1.out,aP HB9.out];(first|done|rfl),HT.below⟩
  ·have e1:(a.fin !=0)=true:=(by simpa using hf0);clear h_;have h_:=HT.rz 1;go_wp2_with fail;go_ret
   exact⟨by unfold aloneB;rw[if_pos (.inr (by rw[HAT.out];exact hf0))];(first|done|rfl),HT.below⟩
end
end Go.Proofs.YtmgbhhabdapniaaGreatDoor
