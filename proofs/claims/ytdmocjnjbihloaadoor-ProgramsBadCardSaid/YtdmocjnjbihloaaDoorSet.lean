/- What is known of a behavior, in plain Lean: no more than on any way, and at its start. No condition; no run. The walk of heap.Set. No condition beside what is read. -/
import Derived.Test.YtdmocjnjbihloaaDoorFlowM
import Derived.Test.YtdmocjnjbihloaaDoorGet
namespace Go.Proofs.YtdmocjnjbihloaaDoor
section
open Go.RowKit
theorem fold_same {k:List Int} (hk:k.length=8):∀(ts:List Int) (s:Kn),(ts.foldl (stepT k) s).2=false→s.2=false→∀t∈ts,stepT k s t=s
 | [],_,_,_,t,ht=>by cases ht
 |t0::r,s,h,hs,t,ht=>by
  rw[List.foldl_cons] at h;have h1:(stepT k s t0).2=false:=by
   cases hb:(stepT k s t0).2
   ·rfl
   ·rw[(nM hk r _).flag hb] at h;cases h
  have h2:stepT k s t0=s:=Prod.ext ((qw hk s t0).same h1) (by rw[h1,hs]);rw[h2] at h;rcases List.mem_cons.1 ht with rfl|ht
  ·exact h2
  ·exact fold_same hk r s h hs t ht
theorem tJ {l:List Ins} {st:List (List Int)} (he:fM st) (h:(dW l st l.length).2=false):∀k,k≤l.length→dW l st k=(st,false):=by
 have key:∀d k,k+d=l.length→(dW l st k).2=false:=by
  intro d;induction d with
  |zero=>intro k hk;rw[Nat.add_zero] at hk;rw[hk];exact h
  |succ d ih=>
   intro k hk;have h1:=ih (k+1) (by omega)
   cases hb:(dW l st k).2
   ·rfl
   ·have:=(ui (l:=l) ((dz (l:=l) he k).iR he) k).flag hb;rw[show(ny l (dW l st k) k)=dW l st (k+1) from rfl,h1] at this
    cases this
 intro k hk;have h2:=key (l.length - k) k (by omega);exact Prod.ext ((dz he k).same h2) h2
theorem flow_way {l:List Ins} {i:Nat} {k:List Int} {o:Ins} (hk:(bQ l)[i]?=some k) (hne:k≠[]) (ho:l[i]?=some o) {t:Int} (ht:t∈lZ i o) (htl:t.toNat<l.length):
  ∃k',(bQ l)[t.toNat]?=some k'∧k'.length=8∧k'.zipWith eu (eF k o)=k':=by
 have hil:i<l.length:=(zE.1 ho).1;have hl0:l≠[]:=fun e=>by rw[e] at hil;exact absurd hil (Nat.not_lt_zero _)
 have he:=nN l;have hs:=(nX l).shut (gJ _);have h0:(dW l (bQ l) l.length).2=false:=by
  have:iG l (bQ l)=(bQ l,false):=hs;unfold iG at this;rw[this]
 have h1:=tJ he h0 (i+1) (by omega);have h2:=tJ he h0 i (by omega);have h3:ny l (bQ l,false) i=(bQ l,false):=by
  rw[show dW l (bQ l) (i+1)=ny l (dW l (bQ l) i) i from rfl,h2] at h1;exact h1
 have h8:k.length=8:=(he k (zF hk)).resolve_left hne;match k,hne,h8 with
 |x::xs,_,h8=>
  unfold ny at h3;simp only[hk,ho] at h3;have h9:(eF (x::xs) o).length=8:=(by rw[lN];exact h8);have h4:=fold_same h9 _ (bQ l,false) (by rw[h3]) rfl t ht;unfold stepT at h4;have hlen:=rO hl0;have hget:(bQ l)[t.toNat]?=some ((bQ l)[t.toNat]'(by rw[hlen];exact htl)):=zD _;generalize (bQ l)[t.toNat]'(by rw[hlen];exact htl)=q at hget;simp only[hget] at h4;match q,hget,h4 with
  | [],_,h4=>injection h4 with _ h4;cases h4
  |y::ys,hget,h4=>
   refine⟨y::ys,hget,(he _ (zF hget)).resolve_left (by simp),?_⟩;simp only at h4;injection h4 with _ h4
   simpa using h4
def Weak (k k':List Int):Prop:=k'.length=8∧∀r:Nat,k'[r]?=k[r]?∨k'[r]?=some 0∨(k'[r]?=some 2∧(k[r]?=some 2∨k[r]?=some 3))
theorem Weak.refl {k:List Int} (h:k.length=8):Weak k k:=⟨h,fun _=> .inl rfl⟩
theorem Weak.trans {a b c:List Int} (h:Weak a b) (h':Weak b c):Weak a c:=⟨h'.1,fun r=>by
 rcases h'.2 r with h1|h1|⟨h1,h2⟩
 ·rw[h1];exact h.2 r
 ·exact .inr (.inl h1)
 ·rcases h.2 r with g1|g1|⟨g1,g2⟩
  ·rw[←g1];exact .inr (.inr ⟨h1,h2⟩)
  ·rw[g1] at h2;rcases h2 with h2|h2<;>cases h2
  ·exact .inr (.inr ⟨h1,g2⟩)⟩
theorem join_weak (a b:Int):eu a b=a∨eu a b=0∨(eu a b=2∧(a=2∨a=3)):=by
 unfold eu;split
 ·exact .inl rfl
 ·split
  ·rename_i h
   simp[lv] at h
   exact .inr (.inr ⟨rfl,h.1⟩)
  ·exact .inr (.inl rfl)
theorem zip_weak {a k:List Int} (ha:a.length=8) (hk:k.length=8):Weak a (a.zipWith eu k):=⟨by simp[ha,hk],fun r=>by
 rw[List.getElem?_zipWith];by_cases hr:r<8
 ·rw[zD (by omega:r<a.length),zD (by omega:r<k.length)];simp only[Option.some.injEq];exact join_weak _ _
 ·rw[List.getElem?_eq_none (by omega:a.length≤r)];exact .inl rfl⟩
theorem join_comm (a b:Int):eu a b=eu b a:=by
 unfold eu;by_cases h:a=b
 ·simp[h]
 ·rw[if_neg h,if_neg (Ne.symm h),Bool.and_comm]
theorem join_to {a b:Int} (h:eu a b=a):a=b∨a=0∨(a=2∧(b=2∨b=3)):=by
 have:=join_weak b a;rw[join_comm,h] at this;exact this
theorem fix_weak {k k':List Int} (h8:k'.length=8) (hk:k.length=8) (h:k'.zipWith eu k=k'):Weak k k':=⟨h8,fun r=>by
 by_cases hr:r<8
 ·have h1:(k'.zipWith eu k)[r]?=k'[r]?:=(by rw[h]);rw[List.getElem?_zipWith,zD (by omega:r<k.length),zD (by omega:r<k'.length)] at h1;rw[zD (by omega:r<k.length),zD (by omega:r<k'.length)];simp only[Option.some.injEq] at h1 ⊢;exact join_to h1
 ·rw[List.getElem?_eq_none (by omega:k'.length≤r),List.getElem?_eq_none (by omega:k.length≤r)];exact .inl rfl⟩
theorem stepT_weak {k:List Int} (hk:k.length=8) (s:Kn) (he:fM s.1) (t:Int) {i:Nat} {x:List Int} (hx:s.1[i]?=some x) (hne:x≠[]):∃y,(stepT k s t).1[i]?=some y∧Weak x y:=by
 have h8:x.length=8:=(he x (zF hx)).resolve_left hne;unfold stepT;split
 ·exact⟨x,hx,.refl h8⟩
 ·rename_i h
  by_cases hi:t.toNat=i
  ·subst hi;rw[hx] at h;injection h with h;exact absurd h hne
  ·exact⟨x,by show(s.1.set _ _)[i]?=_;rw[List.getElem?_set,if_neg hi];exact hx,.refl h8⟩
 ·rename_i y ys h
  by_cases hi:t.toNat=i
  ·subst hi;rw[hx] at h;injection h with h
   subst h;exact⟨_,by show(s.1.set _ _)[t.toNat]?=_;rw[List.getElem?_set,if_pos rfl,if_pos (zE.1 hx).1],zip_weak h8 hk⟩
  ·exact⟨x,by show(s.1.set _ _)[i]?=_;rw[List.getElem?_set,if_neg hi];exact hx,.refl h8⟩
theorem uy {k:List Int} (hk:k.length=8):∀(ts:List Int) (s:Kn),fM s.1→∀{i:Nat} {x:List Int},s.1[i]?=some x→x≠[]→∃y,(ts.foldl (stepT k) s).1[i]?=some y∧Weak x y
 | [],s,he,i,x,hx,hne=>⟨x,hx,.refl ((he x (zF hx)).resolve_left hne)⟩
 |t::ts,s,he,i,x,hx,hne=>by
  obtain⟨y,hy,hw⟩:=stepT_weak hk s he t hx hne;have hyn:y≠[]:=fun e=>by have:=hw.1;rw[e] at this;cases this
  obtain⟨z,hz,hw'⟩:=uy hk ts _ ((qw hk s t).iR he) hy hyn;exact⟨z,hz,hw.trans hw'⟩
theorem nU {l:List Ins} {st:List (List Int)} (he:fM st) {i:Nat} {x:List Int} (hx:st[i]?=some x) (hne:x≠[]):∀k,∃y,(dW l st k).1[i]?=some y∧Weak x y
 |0=>⟨x,hx,.refl ((he x (zF hx)).resolve_left hne)⟩
 |k+1=>by
  obtain⟨y,hy,hw⟩:=nU (l:=l) he hx hne k;have he':=(dz (l:=l) he k).iR he;have hyn:y≠[]:=fun e=>by have:=hw.1;rw[e] at this;cases this
  show ∃z,(ny l (dW l st k) k).1[i]?=some z∧Weak x z
  unfold ny;split
  ·rename_i y0 ys o h1 h2
   have h8:(eF (y0::ys) o).length=8:=by
    rw[lN];exact(he' _ (zF h1)).resolve_left (by simp)
   obtain⟨z,hz,hw'⟩:=uy h8 (lZ k o) _ he' hy hyn;exact⟨z,hz,hw.trans hw'⟩
  ·exact⟨y,hy,hw⟩
theorem jJ.weak {l:List Ins} {st r:List (List Int)} (h:jJ l st r) (he:fM st) {i:Nat} {x:List Int} (hx:st[i]?=some x) (hne:x≠[]):∃y,r[i]?=some y∧Weak x y:=by
 induction h generalizing x with
 | @done st h=>exact nU he hx hne l.length
 | @more st r h _ ih=>
  obtain⟨y,hy,hw⟩:=nU (l:=l) he hx hne l.length;have hyn:y≠[]:=fun e=>by have:=hw.1;rw[e] at this;cases this
  obtain⟨z,hz,hw'⟩:=ih ((dz (l:=l) he l.length).iR he) hy hyn;exact⟨z,hz,hw.trans hw'⟩
theorem flow_first (l:List Ins):∃k,(bQ l)[0]?=some k∧Weak [3,3,0,0,0,0,0,0] k:=(nX l).weak (gJ _) rfl (by simp)
theorem stepT_zero {k:List Int} (s:Kn) {t:Int} (ht:0<t):(stepT k s t).1[0]?=s.1[0]?:=by
 unfold stepT;split
 ·rfl
 ·show(s.1.set _ _)[0]?=_
  rw[List.getElem?_set,if_neg (by omega)]
 ·show(s.1.set _ _)[0]?=_
  rw[List.getElem?_set,if_neg (by omega)]
theorem foldT_zero {k:List Int}:∀(ts:List Int) (s:Kn),(∀t∈ts,0<t)→(ts.foldl (stepT k) s).1[0]?=s.1[0]?
 | [],_,_=>rfl
 |t::ts,s,h=>by
  rw[List.foldl_cons,foldT_zero ts _ (fun t ht=>h t (by simp[ht])),stepT_zero s (h t (by simp))]
theorem roundTo_zero {l:List Ins} {st:List (List Int)} (h:∀(i:Nat) (o:Ins),l[i]?=some o→∀t∈lZ i o,0<t):∀k,(dW l st k).1[0]?=st[0]?
 |0=>rfl
 |k+1=>by
  show(ny l (dW l st k) k).1[0]?=_
  unfold ny;split
  ·rename_i y0 ys o h1 h2
   rw[foldT_zero _ _ (h k o h2),roundTo_zero h k]
  ·exact roundTo_zero h k
theorem flow_zero {l:List Ins} (h:∀(i:Nat) (o:Ins),l[i]?=some o→∀t∈lZ i o,0<t):(bQ l)[0]?=some [3,3,0,0,0,0,0,0]:=by
 have key:∀st r,jJ l st r→r[0]?=st[0]?:=fun st r hf=>by
  induction hf with
  | @done st _=>exact roundTo_zero h _
  | @more st r _ _ ih=>rw[ih];exact roundTo_zero h _
 rw[key _ _ (nX l)];rfl
end
section
open Go.RowKit
set_option maxRecDepth 100000 in
set_option maxHeartbeats 4000000 in
theorem set_any (m:Int) (S:Nat→Prop) (A:Option Addr) (c:Nat) (os:List Ob) (v:V) (f:Int) (x:V) (w:World) (hr:aj obE w S (.slice A os.length c) os):
  Calls Tryd.prog 50 #[.agg #[.int .i64 m,.slice A os.length c],.agg #[.int .i64 v.k,.int .i64 v.n],.int .i64 f,.agg #[.int .i64 x.k,.int .i64 x.n]] w (SetD w ⟨m,os⟩ v f x):=by
 have Hr:=zG hr;obtain⟨-,h1,h2,h3⟩:=hr.fw;have H3:os.length*32≤140737488355328:=h3;clear hr h3;have hB:Below w.heap.size w (((((w.alloc (.cells #[.int .i64 m,.slice A os.length c] 36)).alloc (.cells #[.int .i64 v.k,.int .i64 v.n] 47)).alloc (.cells #[.int .i64 x.k,.int .i64 x.n] 47)).alloc (.cells #[.int .i64 0,.slice none 0 0] 36)).alloc
   (.cells #[.int .i64 v.k,.int .i64 v.n,.int .i64 x.k,.int .i64 x.n] 47)):=
  (((((Below.refl _ _).alloc (Nat.le_refl _) _).alloc (by simp) _).alloc (by simp;omega) _).alloc (by simp;omega) _).alloc (by simp;omega) _
 have L0:dD (((((w.alloc (.cells #[.int .i64 m,.slice A os.length c] 36)).alloc (.cells #[.int .i64 v.k,.int .i64 v.n] 47)).alloc (.cells #[.int .i64 x.k,.int .i64 x.n] 47)).alloc (.cells #[.int .i64 0,.slice none 0 0] 36)).alloc
   (.cells #[.int .i64 v.k,.int .i64 v.n,.int .i64 x.k,.int .i64 x.n] 47))
   [(w.heap.size+1+1+1,#[.int .i64 0,.slice none 0 0],36),(w.heap.size+1+1,#[.int .i64 x.k,.int .i64 x.n],47),(w.heap.size+1,#[.int .i64 v.k,.int .i64 v.n],47),(w.heap.size,#[.int .i64 m,.slice A os.length c],36)]:=
  ((((dD.nil.new rfl).new (by simp)).new (by simp)).new (by simp)).alloc _
 have Hl0:=zG L0;have HB:=zG hB;clear L0 hB;by_cases he:gz ⟨m,os⟩ v f x=0
 ·have hk:hpB ⟨m,os⟩ [v,x]=true∧bJ os v f=0:=by
   unfold gz at he;split at he
   ·cases he
   ·rename_i hp
    exact⟨by simpa using hp,he⟩
  obtain⟨hp,ho⟩:=hk;have eH:setH ⟨m,os⟩ v f x=⟨m,eY os v.n.toNat f.toNat x⟩:=if_pos he;unfold SetD;rw[eH,he];have hc:checkN ⟨m,os⟩ [v,x]=0:=(by simp[checkN,hp]);have hval:v.k=2→0≤v.n∧v.n<os.length:=fun hk=>qH (by simp[hpB] at hp;exact hp.2.1) hk;obtain⟨hk,o,hoo,e1,e2,_⟩:=mH ho;obtain⟨l1,l2⟩:=hval hk;obtain⟨vk,vn⟩:=v;simp only at hk l1 l2 hoo;subst hk;obtain⟨i,rfl⟩:=Int.eq_ofNat_of_zero_le l1;obtain⟨j,rfl⟩:=Int.eq_ofNat_of_zero_le e1;simp only[Int.toNat_natCast] at hoo;have hj:j<o.fields.length:=(by omega);have hi:i<os.length:=(by omega);have Hc:=zG hc;have Ho:=zG ho;have Hoo:=zG hoo;have i1:(0:Int)≤(i:Int):=(by omega);have i2:(i:Int)<(os.length:Int):=(by omega);have j1:(0:Int)≤(j:Int):=(by omega);have j2:(j:Int)<(o.fields.length:Int):=(by omega);clear he eH hc hp ho hoo hval l1 l2 e1 e2;go_enter Tryd.func50,Tryd.ntmps50
  go_wp2_with fail;refine(dN m _ _ A _ c 2 os [⟨2,(i:Int)⟩,x] _ _ Hc (Hr.below (by decide) HB.out) (rd_two (v:=⟨2,(i:Int)⟩) (x:=x) (gG (by simp)))).mono ?_;rintro e w1 ⟨rfl,hb1⟩;have Hl1:w.heap.size+1+1+1+1<w1.heap.size:=(by have:=hb1.size;simp at this;omega);have L1:=Hl0.after hb1;have hbb:=bM HB.out hb1;have HL1:=zG L1;obtain⟨c0,f0,c1,f1,c2,f2,c3,f3,-⟩:=L1.rules;clear L1;go_wp2_with fail;refine(pn m _ A c os ⟨2,(i:Int)⟩ (j:Int) _ 0 Ho (fun _=>⟨i1,i2⟩) (Hr.below (by decide) hbb)).mono ?_;rintro e w2 ⟨rfl,hb2⟩;have L2:=HL1.after hb2;have hbb2:=bM hbb hb2;have Hz2:w1.heap.size≤w2.heap.size:=hb2.size;have HL2:=zG L2;clear c0 f0 c1 f1 c2 f2 c3 f3;obtain⟨c0,f0,c1,f1,c2,f2,c3,f3,-⟩:=L2.rules;clear L2;go_wp2_with fail;refine(lU m _ A c os _ (Hr.below (by decide) hbb2)).mono ?_;rintro e w3 ⟨u,vs,rfl,hsep,-,hb3⟩;obtain⟨A2,c2',rfl⟩:=bZ hsep.row;have L3:=HL2.after hb3;have hbb3:=bM hbb2 hb3;have Hz3:w2.heap.size≤w3.heap.size:=hb3.size;have HL3:=zG L3;have Hsep:=zG hsep;clear c0 f0 c1 f1 c2 f2 c3 f3;obtain⟨c0,f0,c1,f1,c2,f2,c3,f3,-⟩:=L3.rules;clear L3 hsep;go_wp2_with fail;have HL4:=zG (HL3.set2 3 (.int .i64 m) (.slice A2 os.length c2') rfl rfl (by simp<;>omega))
  have Hsep4:=zG ((Hsep.far (a:=⟨w.heap.size,0,none⟩) (by show w.heap.size<w2.heap.size;omega) (.int .i64 m)).far (a:=⟨w.heap.size,1,none⟩) (by show w.heap.size<w2.heap.size;omega) (.slice A2 os.length c2'));have hbb4:=fF (x:= .int .i64 m) (y:= .slice A2 os.length c2') (i:=0) (j:=1) hbb3 (Nat.le_refl w.heap.size);clear c0 f0 c1 f1 c2 f2 c3 f3 HL3 Hsep hbb3 hbb2 hbb hb1 hb2 hb3 HL1 HL2;generalize (w3.setCell ⟨w.heap.size,0,none⟩ (.int .i64 m)).setCell ⟨w.heap.size,1,none⟩ (.slice A2 os.length c2')=w4 at*;obtain⟨c0,f0,c1,f1,c2,f2,c3,f3,-⟩:=HL4.rules;obtain⟨g,q,cq,y0,z0,rfl,hg,k0,hq,fq0,fq1,k1,k2,⟨_,hgt⟩,⟨_,hqt⟩,hsep5⟩:=Hsep4.store Hoo.out hj x;have Hsep5:=zG hsep5;clear hsep5;have nq:q≠w.heap.size:=(by omega);have ng:g≠w.heap.size:=(by omega);clear hgt hqt;refine av [.still [0,1,2,3,4,5,6,7,8,9],.loud 10 []] (by kernel_rfl) (by kernel_rfl) ?_;refine ps_ ?_;repeat still_step
  refine zH ?_;refine pl_ ?_;go_wp2_with fail;refine⟨trivial,?_⟩;refine zI ?_;have Hsep6:=zG Hsep5.draw;have HL6:=zG (((HL4.far (a:=⟨q,j*2,none⟩) (u:= .int .i64 x.k) (fun e he=>by simp at he;rcases he with rfl|rfl|rfl|rfl<;>simp<;>omega)).far (a:=⟨q,j*2+1,none⟩) (u:= .int .i64 x.n) (fun e he=>by simp at he;rcases he with rfl|rfl|rfl|rfl<;>simp<;>omega)).drew)
  have hbb6:Below w.heap.size w ((w4.setCell ⟨q,j*2,none⟩ (.int .i64 x.k)).setCell ⟨q,j*2+1,none⟩ (.int .i64 x.n)).drew:=((hbb4.setCell (by show w.heap.size≤q;omega) _).setCell (by show w.heap.size≤q;omega) _).drew;clear Hsep4 Hsep5 HL4 hbb4 k0 k1 k2 fq0 fq1;clear c0 f0 c1 f1 c2 f2 c3 f3;generalize ((w4.setCell ⟨q,j*2,none⟩ (.int .i64 x.k)).setCell ⟨q,j*2+1,none⟩ (.int .i64 x.n)).drew=w6 at*;obtain⟨c0,f0,c1,f1,c2,f2,c3,f3,-⟩:=HL6.rules;go_wp2_with fail;have hS:=(Hsep6.far (a:=⟨w.heap.size+1+1+1,0,none⟩) (by show _<_;simp only[];omega) (.int .i64 m)).far (a:=⟨w.heap.size+1+1+1,1,none⟩) (by show _<_;simp only[];omega) (.slice (some ⟨g,0,none⟩) os.length c2');have L7:=HL6.set2 0 (.int .i64 m) (.slice (some ⟨g,0,none⟩) os.length c2') rfl rfl (by simp<;>omega)
  simp only[zC,zB] at L7;obtain⟨c0',f0',-⟩:=L7.rules;have hl:=fV os i j x;rw[←hl] at hS;refine bodyPost_ret (v:=_) ?_ rfl ⟨.agg #[.int .i64 m,.slice (some ⟨g,0,none⟩) os.length c2'],rfl,?_,fF hbb6 (by omega)⟩
  ·simp[results,Tryd.results50,go_sem,c0']
  ·rw[←hl];exact RdH.of_sep hS (by rw[hl];exact H3) (by omega)
 ·have eH:setH ⟨m,os⟩ v f x=⟨0,[]⟩:=if_neg he;unfold SetD;rw[eH];have hk:∃k r:Int,gz ⟨m,os⟩ v f x=r∧checkN ⟨m,os⟩ [v,x]=k∧((k=8∧r=8)∨(k=0∧bJ os v f=r∧r≠0∧(v.k=2→0≤v.n∧v.n<os.length))):=by
   cases hp:hpB ⟨m,os⟩ [v,x]
   ·exact⟨8,8,by simp[gz,hp],by simp[checkN,hp],.inl ⟨rfl,rfl⟩⟩
   ·have h2:gz ⟨m,os⟩ v f x=bJ os v f:=(by simp[gz,hp]);exact⟨0,_,h2,by simp[checkN,hp],.inr ⟨rfl,rfl,by rw[←h2];exact he,fun hk=>qH (by simp[hpB] at hp;exact hp.2.1) hk⟩⟩
  obtain⟨k,r,e1,hc,hk⟩:=hk;rw[e1];have Hc:=zG hc;clear he eH e1 hc;rcases hk with⟨rfl,rfl⟩|⟨rfl,hk,hr0,hval⟩
  ·go_enter Tryd.func50,Tryd.ntmps50
   go_wp2_with fail;refine(dN m _ _ A _ c 2 os [v,x] _ _ Hc (Hr.below (by decide) HB.out) (rd_two (gG (by simp)))).mono ?_;rintro e w1 ⟨rfl,hb1⟩;have L1:=Hl0.after hb1;have hbb:=bM HB.out hb1;have HL1:=zG L1;obtain⟨c0,f0,c1,f1,c2,f2,c3,f3,-⟩:=L1.rules;clear L1;go_wp2
   have L2:=HL1.set2 0 (.int .i64 0) (.slice none 0 0) rfl rfl (by simp<;>omega)
   obtain⟨c0',-⟩:=L2.rules;refine bodyPost_ret (v:=_) ?_ rfl ⟨.agg #[.int .i64 0,.slice none 0 0],rfl,.zero,fF hbb (by omega)⟩;simp[results,Tryd.results50,go_sem,c0']
  ·have Hk:=zG hk;have Hval:=zG hval;have hne:(r !=0)=true:=(by simpa using hr0);clear hk hval hr0;go_enter Tryd.func50,Tryd.ntmps50
   go_wp2_with fail;refine(dN m _ _ A _ c 2 os [v,x] _ _ Hc (Hr.below (by decide) HB.out) (rd_two (gG (by simp)))).mono ?_;rintro e w1 ⟨rfl,hb1⟩;have L1:=Hl0.after hb1;have hbb:=bM HB.out hb1;have HL1:=zG L1;obtain⟨c0,f0,c1,f1,c2,f2,c3,f3,-⟩:=L1.rules;clear L1;go_wp2_with fail;refine(pn m _ A c os v f _ r Hk Hval.out (Hr.below (by decide) hbb)).mono ?_;rintro e w2 ⟨rfl,hb2⟩;have hbb2:=bM hbb hb2;have HL2:=zG (HL1.after hb2);clear c0 f0 c1 f1 c2 f2 c3 f3;obtain⟨c0,f0,c1,f1,c2,f2,c3,f3,-⟩:=HL2.rules;go_wp2
   have L3:=HL2.set2 0 (.int .i64 0) (.slice none 0 0) rfl rfl (by simp<;>omega)
   obtain⟨c0',-⟩:=L3.rules;refine bodyPost_ret (v:=_) ?_ rfl ⟨.agg #[.int .i64 0,.slice none 0 0],rfl,.zero,fF hbb2 (by omega)⟩;simp[results,Tryd.results50,go_sem,c0']
end
end Go.Proofs.YtdmocjnjbihloaaDoor
