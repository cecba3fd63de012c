/- The programs that are made of raw numbers, in plain Lean; that they are verified. No condition; no run. A stage: an actor that ends, all its cells written; rows that are taken out told as rows; what all heaps of a world must be for its methods. No condition. The stage's send: its own closure: is an object dead? Condition: where the actor and its objects lie. The acts that are made of raw numbers, in plain Lean: each may be done, and they are not many. No condition; no run. A stage: one actor more. No condition. A transfer whose answer is known; regions with many orders: a state that several ways come to. No condition. -/
import Derived.Test.YtdmocjnjbihloaaDoorFlowM
import Derived.Test.YtdmocjnjbihloaaDoorMoved
import Derived.Test.YtdmocjnjbihloaaDoorActC
import Derived.Test.YtdmocjnjbihloaaDoorActK
import Derived.Test.YtdmocjnjbihloaaDoorTransfer
namespace Go.Proofs.YtdmocjnjbihloaaDoor
section
open Go.RowKit
def qD (l:List Ins):Nat→List (List Int)→Option (List (List Int))
 |0,_=>none
 |n+1,st=>if(iG l st).2 then qD l n (iG l st).1 else some (iG l st).1
theorem qR {l:List Ins}:∀{n:Nat} {st r:List (List Int)},qD l n st=some r→jJ l st r
 |0,_,_,h=>by cases h
 |n+1,st,r,h=>by
  unfold qD at h;split at h
  ·rename_i hf
   exact .more hf (qR h)
  ·rename_i hf
   injection h with h
   subst h;exact .done (by simpa using hf)
theorem flowL_run {l:List Ins} {n:Nat} {r:List (List Int)} (h:qD l n (gB l.length)=some r):bQ l=r:=flowL_is (qR h)
def badR (l:List Ins) (st:List (List Int)):Option Nat:=(List.range l.length).find? (fun i=>match st[i]?,l[i]? with
 |some (x::xs),some o=> !mayB (x::xs) o
 |_,_=>false)
theorem badL_run {l:List Ins} {r:List (List Int)} (h:bQ l=r):nt l=badR l r:=by
 subst h;rfl
def lW (r:Rw):Ins:=
 if bI r.kind 26<3 then ⟨1,bI r.a 6,0,bI r.c 12 - 3⟩
 else if bI r.kind 26<5 then ⟨2+bI r.c 3,bI r.a 6,bI r.b 6,0⟩
 else if bI r.kind 26<8 then ⟨7,bI r.a 6,0,1+bI r.c 4⟩
 else if bI r.kind 26<10 then ⟨8,bI r.a 6,bI r.b 6,bI r.c 3⟩
 else if bI r.kind 26<12 then ⟨9,bI r.a 6,bI r.b 6,bI r.c 2⟩
 else if bI r.kind 26<14 then ⟨10,bI r.a 6,bI r.b 6,bI r.c 2⟩
 else if bI r.kind 26<17 then ⟨11,bI r.a 6,bI r.b 6,bI r.c 2⟩
 else if bI r.kind 26=17 then ⟨12,bI r.a 6,bI r.b 6,0⟩
 else if bI r.kind 26<20 then ⟨13,bI r.a 6,bI r.b 6,0⟩
 else if bI r.kind 26=20 then ⟨14,bI r.a 6,bI r.b 6,0⟩
 else if bI r.kind 26<23 then ⟨15,bI r.a 6,0,0⟩
 else if bI r.kind 26=23 then ⟨16,bI r.a 6,0,0⟩
 else if bI r.kind 26=24 then ⟨17,bI r.a 6,bI r.b 6,bI r.c 3⟩
 else ⟨18,bI r.a 6,0,0⟩
def dE:Ins:=⟨0,0,0,0⟩
noncomputable def qy (l:List Ins):Bool:=(jf [l++[dE],[dE],[dE]]).2.2==0
def moreK (r:Rw):List Ins:=if bI (r.kind.tdiv 26) 5=0 then [⟨5,bI r.b 6,0,2⟩,lW r] else [lW r]
noncomputable def stepK (out:List Ins) (r:Rw):List Ins:=if qy (out++moreK r) then out++moreK r else out
noncomputable def fO (most:Int) (l:List Rw) (n:Nat):List Ins:=(l.take n).foldl (fun out r=>if(out.length:Int)<most then stepK out r else out) []
noncomputable def iZ (l:List Rw) (most:Int):List Ins:=fO most l l.length++[dE]
def dK (l:List Rw) (k:Nat):Nat→List Rw
 |0=>[]
 |n+1=>dK l k n++(match l[k+3*n]? with|some r=>[r]|none=>[])
noncomputable def dB (l:List Rw) (most:Int):List (List Ins):=(List.range 3).map (fun k=>iZ (dK l k l.length) most)
structure sD (most:Int) (l:List Ins):Prop where
 code:codeF 3 (l++[dE])=0
 good:nt (l++[dE])=none
 few:(l.length:Int)≤most+1
theorem flow_done:bQ [dE]= [[3,3,0,0,0,0,0,0]]:=flowL_run (n:=1) rfl
theorem bad_done:nt [dE]=none:=by rw[badL_run flow_done];rfl
theorem right_nil {most:Int} (h:0≤most):sD most []:=⟨rfl,bad_done,by simp;omega⟩
theorem nC {p:List (List Ins)} (h:(jf p).2.2=0):bT p=0∧∀l∈p,nt l=none:=by
 by_cases h0:bT p=0
 ·refine⟨h0,?_⟩;unfold jf at h;rw[if_neg (by simp[h0])] at h;have key:∀(q:List (List Ins)) (k:Nat),badK k q=none→∀l∈q,nt l=none:=by
   intro q;induction q with
   |nil=>exact fun _ _ l hl=>by cases hl
   |cons c q ih=>
    intro k hk l hl;unfold badK at hk;split at hk
    ·cases hk
    ·rename_i hc
     rcases List.mem_cons.1 hl with rfl|hl
     ·exact hc
     ·exact ih _ hk l hl
  split at h
  ·cases h
  ·rename_i hb
   exact key p 0 hb
 ·rw[verP_bad h0] at h;exact absurd h h0
theorem right_of {most:Int} {l:List Ins} (h:qy l=true) (hm:(l.length:Int)≤most+1):sD most l:=by
 obtain⟨h1,h2⟩:=nC (p:=[l++[dE],[dE],[dE]]) (by simpa[qy] using h);refine⟨?_,h2 _ (by simp),hm⟩;unfold bT at h1;rw[if_neg (by simp),if_neg (by simp)] at h1;exact ik h1 _ (by simp)
theorem moreK_len (r:Rw):(moreK r).length≤2:=by unfold moreK;split<;>simp
theorem beh_fold {most:Int}:∀(l:List Rw) (out:List Ins),sD most out→sD most (l.foldl (fun out r=>if(out.length:Int)<most then stepK out r else out) out)
 | [],_,h=>h
 |r::l,out,h=>by
  rw[List.foldl_cons];refine beh_fold l _ ?_;split
  ·rename_i hlt
   unfold stepK;split
   ·rename_i hr
    exact right_of hr (by have:=moreK_len r;simp;omega)
   ·exact h
  ·exact h
theorem beh_right {most:Int} (h:0≤most) (l:List Rw) (n:Nat):sD most (fO most l n):=beh_fold _ _ (right_nil h)
theorem behK_succ {most:Int} {l:List Rw} {j:Nat} {x:Rw} (h:l[j]?=some x):fO most l (j+1)=if((fO most l j).length:Int)<most then stepK (fO most l j) x else fO most l j:=by
 unfold fO;rw[List.take_add_one,h];simp
theorem fold_stay {most:Int}:∀(l:List Rw) (out:List Ins),¬(out.length:Int)<most→l.foldl (fun out r=>if(out.length:Int)<most then stepK out r else out) out=out
 | [],_,_=>rfl
 |r::l,out,h=>by
  rw[List.foldl_cons,if_neg h];exact fold_stay l out h
theorem behK_stay {most:Int} {l:List Rw} {j:Nat} (h:¬((fO most l j).length:Int)<most):fO most l l.length=fO most l j:=by
 have e:l.take l.length=l.take j++l.drop j:=(by rw[List.take_append_drop,List.take_length]);unfold fO at h ⊢;rw[e,List.foldl_append];exact fold_stay _ _ h
theorem behK_all {most:Int} {l:List Rw} {j:Nat} (h:l.length≤j):fO most l l.length=fO most l j:=by
 unfold fO;rw[List.take_length,List.take_of_length_le h]
theorem jF (l:List Rw) (most:Int):(dB l most).length=3:=by simp[dB]
theorem qX {l:List Rw} {most:Int} (h:0≤most) {c:List Ins} (hc:c∈dB l most):∃b,c=b++[dE]∧sD most b:=by
 obtain⟨k,_,rfl⟩:=List.mem_map.1 hc;exact⟨_,rfl,beh_right h _ _⟩
theorem sW:∀{xs:List Int},(∀e∈xs,e=0)→gp xs=0
 | [],_=>rfl
 |x::xs,h=>by
  rw[gp,if_pos (h x (by simp))];exact sW (fun e he=>h e (by simp[he]))
theorem programK_ok {l:List Rw} {most:Int} (h:0≤most):bT (dB l most)=0:=by
 unfold bT;rw[jF,if_neg (by omega),if_neg (by omega)];refine sW (fun e he=>?_);obtain⟨c,hc,rfl⟩:=List.mem_map.1 he;obtain⟨b,rfl,hb⟩:=qX h hc;exact hb.code
theorem rD {l:List Rw} {most:Int} (h:0≤most):jf (dB l most)=(0,0,0):=by
 refine verP_ok (programK_ok h) (fun c hc=>?_);obtain⟨b,rfl,hb⟩:=qX h hc;exact hb.good
end
section
open Go.RowKit
def Fit (W:Wd):Prop:=∀(i:Nat) (a:Ac),W.aa[i]?=some a→hpB a.heap (aC a)=true∧a.box.length≤6
theorem Fit.put {W:Wd} (h:Fit W) {n:Nat} {b:Ac} (hb:hpB b.heap (aC b)=true∧b.box.length≤6):Fit (W.put n b):=fun i a ha=>by
 rw[qY] at ha;by_cases e:i=n
 ·rw[if_pos e] at ha;by_cases hl:n<W.aa.length
  ·rw[if_pos hl] at ha;injection ha with ha;rw[←ha];exact hb
  ·rw[if_neg hl] at ha;cases ha
 ·rw[if_neg e] at ha;exact h i a ha
section
variable {B:Nat} {w0 w w':World} {R R0:List Res} {st:Bool} {nk:Nat} {W W':Wd} {L L':Lay} {X:List Key}
theorem fE.of {W2:Wd} (h:fE B w0 w nk W L R0 W' w') (e:W'=W2):fE B w0 w nk W L R0 W2 w':=e ▸ h
theorem regs_row {n:Nat} {a:Ac} (ha:W.aa[n]?=some a):L.bR st nk W (.regs n)= .row 0 47 2 (.slice (some ⟨L.rg n,0,none⟩) 8 (L.rc n)) 8 (cat (vcs a.regs)):=by rw[Lay.bR,ha];rfl
theorem box_row {n:Nat} {a:Ac} (ha:W.aa[n]?=some a):L.bR st nk W (.box n)= .row 0 47 2 (.slice (L.bA n) a.box.length (L.bc n)) a.box.length (cat (vcs a.box)):=by rw[Lay.bR,ha];rfl
theorem St.actGone (h:St B w0 w R) (i:Nat) (hi:R[i]?=some (stR st nk W L X)) {n:Nat} {a:Ac} (ha:W.aa[n]?=some a) (hX:Key.acts∉X) (hX2:Key.regs n∈X) (hX3:Key.box n∈X) (g c:Nat) (how:Int):
  St B w0 ((((((((w.setCell ⟨L.g,n*8,none⟩ (.int .i64 a.kind)).setCell ⟨L.g,n*8+1,none⟩ (.int .i64 a.parent)).setCell ⟨L.g,n*8+2,none⟩ (.int .i64 a.heap.most)).setCell ⟨L.g,n*8+3,none⟩ (.slice none 0 0)).setCell ⟨L.g,n*8+4,none⟩ (.slice (some ⟨g,0,none⟩) 8 c)).setCell ⟨L.g,n*8+5,none⟩ (.int .i64 (-1))).setCell ⟨L.g,n*8+6,none⟩ (.slice none 0 0)).setCell ⟨L.g,n*8+7,none⟩ (.int .i64 how))
    (R.set i (stR st nk (W.put n (eP a how)) (((L.az n none 0).aO n g c).aN n none 0) X))∧
   au w R ((((((((w.setCell ⟨L.g,n*8,none⟩ (.int .i64 a.kind)).setCell ⟨L.g,n*8+1,none⟩ (.int .i64 a.parent)).setCell ⟨L.g,n*8+2,none⟩ (.int .i64 a.heap.most)).setCell ⟨L.g,n*8+3,none⟩ (.slice none 0 0)).setCell ⟨L.g,n*8+4,none⟩ (.slice (some ⟨g,0,none⟩) 8 c)).setCell ⟨L.g,n*8+5,none⟩ (.int .i64 (-1))).setCell ⟨L.g,n*8+6,none⟩ (.slice none 0 0)).setCell ⟨L.g,n*8+7,none⟩ (.int .i64 how))
    (R.set i (stR st nk (W.put n (eP a how)) (((L.az n none 0).aO n g c).aN n none 0) X)):=by
 have hil:i<R.length:=(zE.1 hi).1;have hg:∀r:Res,(R.set i r)[i]?=some r:=fun r=>List.getElem?_set_self hil;obtain⟨h1,k1⟩:=h.eU i hi ha hX 0 (.int .i64 a.kind) a (by decide) rfl rfl rfl;rw[pO ha] at h1 k1;obtain⟨h2,k2⟩:=h1.eU i (hg _) ha hX 1 (.int .i64 a.parent) a (by decide) rfl rfl rfl;rw[pO ha,List.set_set] at h2 k2;obtain⟨h3,k3⟩:=h2.jl i (hg _) ha hX none 0 [];rw[List.set_set] at h3 k3;obtain⟨h4,k4⟩:=h3.actRegs i (hg _) (aJ ha) hX hX2 g c (List.replicate 8 aQ) rfl;rw[List.set_set,bz] at h4 k4;obtain⟨h5,k5⟩:=h4.eU i (hg _) (aJ ha) hX 5 (.int .i64 (-1)) (({a.af ⟨a.heap.most,[]⟩ with regs:=List.replicate 8 aQ}:Ac).aG (-1)) (by decide) rfl rfl rfl;rw[List.set_set,bz] at h5 k5;obtain⟨h6,k6⟩:=h5.o7 i (hg _) (aJ ha) hX hX3 none 0 [];rw[List.set_set,bz] at h6 k6;obtain⟨h7,k7⟩:=h6.eU i (hg _) (aJ ha) hX 7 (.int .i64 how) (eP a how) (by decide) rfl rfl rfl;rw[List.set_set,bz] at h7 k7;refine⟨h7,?_⟩;exact(((((k1.trans (by simp) k2).trans (by simp) k3).trans (by simp) k4).trans (by simp) k5).trans (by simp) k6).trans (by simp) k7
theorem aA.gone {S:Nat→Prop} {n g c:Nat} {a:Ac} {how:Int} (h:aA w S W L) (ha:W.aa[n]?=some a):aA w S (W.put n (eP a how)) (((L.az n none 0).aO n g c).aN n none 0):=fun i x hx=>by
 have:=(h.ah (a':=eP a how) (A:=none) (c:=0) ha (by exact aj.nil)) i x hx;exact this
end
end
section
open Go.RowKit
theorem sendDead_any (S:Nat→Prop) (A:Option Addr) (c:Nat) (os:List Ob) (b g n:Nat) (w:World) (l:List Int) (h0:w.cell? ⟨b,0,none⟩=some (.pointer (some ⟨g,n*8,none⟩))) (h3:w.cell? ⟨g,n*8+3,none⟩=some (.slice A os.length c)) (hr:aj obE w S (.slice A os.length c) os)
  (hl:∀x∈l,0≤x∧x<(os.length:Int)):sF 108 (.pointer (some ⟨b,0,none⟩)) w (aV os) l:=by
 intro x hx W hb;have hB:=lt_of_cell h0;have hG:=lt_of_cell h3;have g0:W.cell? ⟨b,0,none⟩=some (.pointer (some ⟨g,n*8,none⟩)):=(hb.cell (p:=⟨b,0,none⟩) hB).trans h0;have g3:W.cell? ⟨g,n*8+3,none⟩=some (.slice A os.length c):=(hb.cell (p:=⟨g,n*8+3,none⟩) hG).trans h3;obtain⟨x1,x2⟩:=hl x hx;obtain⟨i,rfl⟩:=Int.eq_ofNat_of_zero_le x1;obtain⟨o,ho⟩:∃o,os[i]?=some o:=⟨_,zD (by omega)⟩;obtain⟨pb,po,B1,d1,rfl,_,_,y0,y1,_⟩:=(hr.below (by decide) hb).at_o ho;have hd:aV os (i:Int)=o.dead:=(by simp[aV,ho]);rw[hd];clear h0 h3 hb hB hG hr hl hx ho hd;go_enter Tryd.func108,Tryd.ntmps108
 go_wp2_with fail;go_ret
 exact⟨rfl,Below.refl _ _⟩
set_option maxRecDepth 100000 in
theorem sendGone_any (b r g n gr c R:Nat) (k m:Int) (u:FrameMode) (w:World) (hR:R<8) (h0:w.cell? ⟨b,0,none⟩=some (.pointer (some ⟨g,n*8,none⟩))) (h4:w.cell? ⟨g,n*8+4,none⟩=some (.slice (some ⟨gr,0,none⟩) 8 c)) (h7:w.cell? ⟨r,0,none⟩=some (.int .i64 (R:Nat)))
  (x0:w.cell? ⟨gr,R*2,none⟩=some (.int .i64 k)) (x1:w.cell? ⟨gr,R*2+1,none⟩=some (.int .i64 m)) (xf:∀j,w.frozen? ⟨gr,j,none⟩=false):
  CallsD Tryd.prog 106 #[.pointer (some ⟨b,0,none⟩),.pointer (some ⟨r,0,none⟩)] u w fun e u' w'=>u'=u∧(e= .returned (.tuple #[])∧w'=((w.drew.setCell ⟨gr,R*2,none⟩ (.int .i64 0)).setCell ⟨gr,R*2+1,none⟩ (.int .i64 0))):=by
 have i1:(0:Int)≤(R:Int):=(by omega);have i2:(R:Int)<8:=(by omega);go_enter_d Tryd.func106,Tryd.ntmps106
 refine av [.still [0,1,2,3,4,5,6],.loud 7 []] (by kernel_rfl) (by kernel_rfl) ?_;refine ps_ ?_;repeat still_step
 refine zH ?_;refine pl_ ?_;go_wp2_with fail;refine⟨trivial,?_⟩;refine zI ?_;go_end0
 exact⟨rfl,rfl⟩
end
section
open Go.RowKit
def whoK (r:Rw):Int:=bI r.a (if bI r.b 3=0 then 1 else if bI r.b 3=1 then 2 else 4)
def deedK (r:Rw):ig:=if bI r.kind 20=0 then ⟨2,whoK r,0,0⟩ else if bI r.kind 20<3 then ⟨3,whoK r,bI r.c 9,bI r.b 5⟩ else ⟨1,whoK r,0,0⟩
def timesK (r:Rw):Nat:=if bI r.kind 20<3 then 1 else(1+bI r.c 5).toNat
def actsK (l:List Rw) (most:Nat):List ig:=⟨3,0,3,1⟩::((l.take most).map (fun r=>List.replicate (timesK r) (deedK r))).flatten
theorem deedK_ok (r:Rw):cO (deedK r)=0:=by
 have hw:0≤whoK r∧whoK r<8:=by
  unfold whoK;split
  ·have:=jk r.a 1 (by omega);omega
  ·split
   ·have:=jk r.a 2 (by omega);omega
   ·have:=jk r.a 4 (by omega);omega
 have h9:=jk r.c 9 (by omega);have h5:=jk r.b 5 (by omega);unfold deedK;split
 ·unfold cO;dsimp only;rw[if_neg (by omega),if_neg (by omega)]
 ·split
  ·unfold cO;dsimp only;rw[if_neg (by omega),if_neg (by omega)]
  ·unfold cO;dsimp only;rw[if_neg (by omega),if_neg (by omega)]
theorem actsK_ok (l:List Rw) (most:Nat):∀d∈actsK l most,cO d=0:=fun d hd=>by
 rcases List.mem_cons.1 hd with rfl|hd
 ·rfl
 ·obtain⟨x,hx,hdx⟩:=List.mem_flatten.1 hd;obtain⟨r,_,rfl⟩:=List.mem_map.1 hx;rw[(List.mem_replicate.1 hdx).2];exact deedK_ok r
theorem timesK_le (r:Rw):timesK r≤5:=by
 have h5:=jk r.c 5 (by omega);unfold timesK;split
 ·omega
 ·omega
theorem flat_few:∀(l:List Rw),((l.map (fun r=>List.replicate (timesK r) (deedK r))).flatten).length≤5*l.length
 | []=>by simp
 |r::l=>by
  have:=flat_few l;have:=timesK_le r;simp only[List.map_cons,List.flatten_cons,List.length_append,List.length_replicate,List.length_cons];omega
theorem actsK_few (l:List Rw) (most:Nat):(actsK l most).length≤1+5*most:=by
 have h1:=flat_few (l.take most);have h2:(l.take most).length≤most:=(by rw[List.length_take];omega);unfold actsK;rw[List.length_cons];omega
end
section
open Go.RowKit
section
variable {B:Nat} {w0 w w':World} {R R0:List Res} {st:Bool} {nk:Nat} {W W':Wd} {L L':Lay} {X:List Key}
def jy (B:Nat) (w0 w:World) (nk:Nat) (W:Wd) (L:Lay) (R0:List Res) (W':Wd) (w':World):Prop:=
 ∃L':Lay,L'.head=L.head∧L'.kA=L.kA∧L'.kc=L.kc∧St B w0 w' (stR true nk W' L' []::R0)∧aA w' (Fr 0 (stR true nk W' L' []::R0)) W' L'∧au w (stR true nk W L []::R0) w' (stR true nk W' L' []::R0)∧w.heap.size≤w'.heap.size
theorem fE.n (h:fE B w0 w nk W L R0 W' w'):jy B w0 w nk W L R0 W' w':=by
 obtain⟨L',e1,e2,e3,e4,e5,h1,h2,h3,h4⟩:=h;exact⟨L',e1,e2,e3,h1,h2,h3,h4⟩
def Wd.more (W:Wd) (b:Ac):Wd:=⟨W.aa++[b],W.prints⟩
def Lay.more (L:Lay) (N g c:Nat) (A:Option Addr) (oc gr rc:Nat):Lay:=
 {L with g:=g,gc:=c,oA:=upd L.oA N A,oc:=upd L.oc N oc,rg:=upd L.rg N gr,rc:=upd L.rc N rc,bA:=upd L.bA N none,bc:=upd L.bc N 0}
theorem more_old {b:Ac} {m:Nat} (hm:m≠W.aa.length):(W.more b).aa[m]?=W.aa[m]?:=by
 show(W.aa++[b])[m]?=_
 rcases Nat.lt_or_gt_of_ne hm with h|h
 ·exact List.getElem?_append_left h
 ·rw[List.getElem?_eq_none (by simp;omega),List.getElem?_eq_none (by omega)]
theorem more_new {b:Ac}:(W.more b).aa[W.aa.length]?=some b:=by
 show(W.aa++[b])[W.aa.length]?=_
 simp
theorem acRows_more {b:Ac} {g c oc gr rc:Nat} {A:Option Addr}:dP (L.more W.aa.length g c A oc gr rc) (W.aa++[b])=dP L W.aa++[iH (L.more W.aa.length g c A oc gr rc) W.aa.length b]:=by
 unfold dP;rw[List.mapIdx_append];congr 1
 ·apply List.ext_getElem?
  intro i;simp only[List.getElem?_mapIdx]
  cases hx:W.aa[i]? with
  |none=>rfl
  |some x=>
   have hi:i≠W.aa.length:=(by have:=(zE.1 hx).1;omega);simp[iH,Lay.more,upd_ne _ _ hi]
 ·simp
theorem St.headMore (h:St B w0 w R) (i:Nat) (hi:R[i]?=some (stR true nk W L [.acts])) (b:Ac) (hb8:b.regs.length=8) (g c:Nat) (A:Option Addr) (oc gr rc:Nat):
  St B w0 (w.setCell ⟨L.head,1,none⟩ (.slice (some ⟨g,0,none⟩) (W.aa.length+1) c)) (R.set i (stR true nk (W.more b) (L.more W.aa.length g c A oc gr rc) [.acts,.regs W.aa.length,.box W.aa.length]))∧
   au w R (w.setCell ⟨L.head,1,none⟩ (.slice (some ⟨g,0,none⟩) (W.aa.length+1) c)) (R.set i (stR true nk (W.more b) (L.more W.aa.length g c A oc gr rc) [.acts,.regs W.aa.length,.box W.aa.length])):=by
 have hil:i<R.length:=(zE.1 hi).1;have hS:aW true nk W L [.acts] w:=h.at_ i hi;obtain⟨h1,k1⟩:=h.reshape (L':=L) (W':=W) (X':=[.acts,.regs W.aa.length,.box W.aa.length]) i hi (fun k=>by
  unfold Lay.own;by_cases h1:k=Key.acts
  ·simp[h1]
  ·by_cases h2:k=Key.regs W.aa.length
   ·subst h2;simp[Lay.bR]
   ·by_cases h3:k=Key.box W.aa.length
    ·subst h3;simp[Lay.bR]
    ·simp[h1,h2,h3]) hS.regs
 obtain⟨h2,k2⟩:=h1.headPut i (List.getElem?_set_self hil) (by simp) 1 (.slice (some ⟨g,0,none⟩) (W.aa.length+1) c) (W.more b) (L.more W.aa.length g c A oc gr rc) (by
   show eB nk _ _=_
   unfold eB Wd.more Lay.more;simp) rfl (fun k hk=>by
  by_cases hx:k∈[Key.acts,.regs W.aa.length,.box W.aa.length]
  ·rw[lF hx,lF hx]
  ·rw[bS hx,bS hx];simp only[List.mem_cons,List.mem_nil_iff,or_false,not_or] at hx
   cases k with
   |head=>exact absurd rfl hk
   |acts=>exact absurd rfl hx.1
   |prints=>rfl
   |regs m=>
    have hm:m≠W.aa.length:=fun e=>hx.2.1 (by rw[e]);simp[Lay.bR,more_old hm,kM,Lay.more,upd_ne _ _ hm]
   |box m=>
    have hm:m≠W.aa.length:=fun e=>hx.2.2 (by rw[e]);simp[Lay.bR,more_old hm,iy,Lay.more,upd_ne _ _ hm]) (fun x hx=>by
  rcases List.mem_append.1 hx with hx|hx
  ·exact hS.regs x hx
  ·simp at hx;rw[hx];exact hb8)
 rw[List.set_set] at h2 k2;exact⟨h2,k1.trans (Nat.le_refl _) k2⟩
theorem aA.more {S:Nat→Prop} {b:Ac} {g c oc gr rc:Nat} {A:Option Addr} (h:aA w S W L) (hr:aj obE w S (.slice A b.heap.ah.length oc) b.heap.ah):aA w S (W.more b) (L.more W.aa.length g c A oc gr rc):=fun i x hx=>by
 by_cases hi:i=W.aa.length
 ·subst hi;rw[more_new] at hx;injection hx with hx
  subst hx;simpa[Lay.more,fQ] using hr
 ·rw[more_old hi] at hx;simpa[Lay.more,upd_ne _ _ hi] using h i x hx
theorem acts_row:L.bR st nk W .acts= .row 0 39 8 (.slice (some ⟨L.g,0,none⟩) W.aa.length L.gc) W.aa.length (cat (dP L W.aa)):=rfl
end
end
section
open Go.RowKit
theorem dH (S T:Nat→Prop) (A B:Option Addr) (c d:Nat) (fr tt:Hp) (v:V) (move:Bool) (E:Int) (f' t':Hp) (v':V) (hE:dU fr v tt=E) (hf:bC fr v tt (ay fr.ah [v]) move=f') (ht:dA fr v tt (ay fr.ah [v])=t') (hv:dX fr v tt (ay fr.ah [v])=v') (w:World)
  (hr:aj obE w S (.slice A fr.ah.length c) fr.ah) (hq:aj obE w T (.slice B tt.ah.length d) tt.ah):
  Calls Tryd.prog 105 #[.agg #[.int .i64 fr.most,.slice A fr.ah.length c],.agg #[.int .i64 v.k,.int .i64 v.n],.agg #[.int .i64 tt.most,.slice B tt.ah.length d],.bool move] w fun en w'=>∃A1 d1 A2 d2,
   en= .returned (.tuple #[.agg #[.int .i64 f'.most,.slice A1 f'.ah.length d1],.agg #[.int .i64 t'.most,.slice A2 t'.ah.length d2],.agg #[.int .i64 v'.k,.int .i64 v'.n],.int .i64 E])∧
   aj obE w' (fun b=>w.heap.size≤b) (.slice A1 f'.ah.length d1) f'.ah∧aj obE w' (fun b=>w.heap.size≤b) (.slice A2 t'.ah.length d2) t'.ah∧Below w.heap.size w w':=by
 refine(transfer_any fr.most tt.most S T A B c d fr.ah tt.ah v move w hr hq).mono ?_;rintro en w' ⟨u1,u2,rfl,⟨A1,d1,rfl,h1⟩,⟨A2,d2,rfl,h2⟩,hb⟩;subst hE hf ht hv;exact⟨A1,d1,A2,d2,rfl,h1,h2,hb⟩
theorem bD {P:Program} {ops:Array Oper} {Q:Exit→Act→World→Prop} {T r:Tr} {a0:Act} {w:World} (I:Act→Act→World→Prop) (hr:∀a w,I a0 a w→jQ P ops Q r a w) (k:(∀a w,I a0 a w→jQ P ops Q r a w)→jQ P ops Q T a0 w):jQ P ops Q T a0 w:=k hr
theorem tr_open {P:Program} {ops:Array Oper} {T:Tr} {a0:Act} {w0:World} {R:Act→World→Prop} (k:∀Q:Exit→Act→World→Prop,(∀a w,R a w→Q .normal a w)→jQ P ops Q T a0 w0):jQ P ops (fun e a w=>e= .normal∧R a w) T a0 w0:=k _ (fun _ _ h=>⟨rfl,h⟩)
end
end Go.Proofs.YtdmocjnjbihloaaDoor
