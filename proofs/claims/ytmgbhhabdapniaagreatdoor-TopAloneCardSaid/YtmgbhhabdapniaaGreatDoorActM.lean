/- What acts leave as it was: plain laws of runs. No condition; no run. The stage's spawn, all ways together. Condition: the stage is there; registers are in their bounds. A script of acts that may be done is run whole; what was told stays told. In plain Lean. No condition; no run. -/
import Derived.Test.YtmgbhhabdapniaaGreatDoorMayS
import Derived.Test.YtmgbhhabdapniaaGreatDoorStage
import Derived.Test.YtmgbhhabdapniaaGreatDoorActN
import Derived.Test.YtmgbhhabdapniaaGreatDoorActQ
namespace Go.Proofs.YtmgbhhabdapniaaGreatDoor
section
section
open Go.RowKit
section
variable {ps:List (List Ins)} {W:Wd} {n:Int} {a:Ac}
structure More (W W':Wd):Prop where
 told:∃l,W'.prints=W.prints++l
 len0:W.aa.length≤W'.aa.length
 len1:W'.aa.length≤W.aa.length+1
theorem More.same {W W':Wd} (hp:W'.prints=W.prints) (hl:W'.aa.length=W.aa.length):More W W':=⟨⟨[],by rw[hp,List.append_nil]⟩,by omega,by omega⟩
theorem More.refl (W:Wd):More W W:= .same rfl rfl
theorem More.then {W W' W2:Wd} (h:More W W') (hp:W2.prints=W'.prints) (hl:W2.aa.length=W'.aa.length):More W W2:=⟨by rw[hp];exact h.told,by rw[hl];exact h.len0,by rw[hl];exact h.len1⟩
theorem More.after {W W' W2:Wd} (hp:W'.prints=W.prints) (hl:W'.aa.length=W.aa.length) (h:More W' W2):More W W2:=⟨by rw[←hp];exact h.told,by rw[←hl];exact h.len0,by rw[←hl];exact h.len1⟩
theorem sH {x y:Int}:(gZ W n x y).prints=W.prints:=by unfold gZ;split<;>rfl
theorem tell_len {x y:Int}:(gZ W n x y).aa.length=W.aa.length:=by
 unfold gZ;split
 ·exact dx
 ·rfl
theorem end_prints {m:Nat} {how:Int}:(endW W m how).prints=W.prints:=by unfold endW;rw[sH];rfl
theorem end_len {m:Nat} {how:Int}:(endW W m how).aa.length=W.aa.length:=by unfold endW;rw[tell_len];exact dx
theorem lC (m:Nat) (r:Int) (move:Bool):(dL W m r move).prints=W.prints∧(dL W m r move).aa.length=W.aa.length:=by
 unfold dL;split
 ·exact⟨rfl,dx⟩
 ·exact⟨rfl,rfl⟩
theorem moved_more (m t:Nat) (r:Int) (move:Bool):(fB W m t r move).prints=W.prints∧(fB W m t r move).aa.length=W.aa.length:=by
 unfold fB;split
 ·exact⟨rfl,rfl⟩
 ·exact⟨rfl,by rw[dx,dx]⟩
theorem room_more (m t:Nat) (r:Int):(iI W m t r).prints=W.prints∧(iI W m t r).aa.length=W.aa.length:=by
 unfold iI;split
 ·exact⟨rfl,dx⟩
 ·exact⟨rfl,rfl⟩
theorem send_more (m:Nat) (r tt:Int) (move:Bool):(fq W m r tt move).prints=W.prints∧(fq W m r tt move).aa.length=W.aa.length:=by
 unfold fq;split
 ·exact lC m r move
 ·split
  ·exact lC m r move
  ·split
   ·obtain⟨h1,h2⟩:=lC (W:=W.put m ((W.at_ m).aK ((W.at_ m).box++[(W.at_ m).reg r]))) m r move;exact⟨h1,h2.trans dx⟩
   ·obtain⟨h1,h2⟩:=lC (W:=fB (iI W m tt.toNat r) m tt.toNat r move) m r move;obtain⟨h3,h4⟩:=moved_more (W:=iI W m tt.toNat r) m tt.toNat r move;obtain⟨h5,h6⟩:=room_more (W:=W) m tt.toNat r;exact⟨(h1.trans h3).trans h5,(h2.trans h4).trans h6⟩
theorem spawn_more (m:Nat) (i:Ins):More W (eG W m i):=by
 unfold eG;split
 ·exact .refl W
 ·exact⟨⟨[],by simp⟩,by simp,by simp⟩
theorem sJ (m:Nat) (i:Ins):More W (bU W m i):=by
 unfold bU;split
 ·split
  ·exact⟨⟨_,rfl⟩,Nat.le_refl _,by simp⟩
  ·exact .refl W
 ·split
  ·split
   ·exact .refl W
   ·exact spawn_more m i
  ·split
   ·exact .refl W
   ·obtain⟨h1,h2⟩:=send_more (W:=W) m i.a ((W.at_ m).reg i.b).n (i.op==13);exact .same h1 h2
theorem did_more (m:Nat) (i:Ins):More W (didW W m i):=by
 unfold didW;split
 ·exact(sJ m i).then rfl dx
 ·exact .same rfl dx
theorem left_more (m:Nat) (i:Ins):More W (kU W m i):=by
 unfold kU;split
 ·exact sJ m i
 ·split
  ·exact .same rfl dx
  ·exact .refl W
theorem step_more (m:Nat):More W (stepW ps W m):=by
 unfold stepW;split
 ·exact .refl W
 ·split
  ·split
   ·exact did_more m _
   ·exact(left_more m _).then end_prints end_len
  ·split
   ·exact .refl W
   ·exact .same rfl dx
theorem act_more (d:ig):More W (iY ps W d):=by
 unfold iY;split
 ·exact .refl W
 ·split
  ·exact step_more _
  ·split
   ·exact .same rfl dx
   ·exact .same sH tell_len
theorem run_told (ps:List (List Ins)):∀(l:List ig) (W:Wd),∃t,(l.foldl (iY ps) W).prints=W.prints++t
 | [],W=>⟨[],by simp⟩
 |d::l,W=>by
  obtain⟨t,ht⟩:=run_told ps l (iY ps W d);obtain⟨t',ht'⟩:=(act_more (ps:=ps) (W:=W) d).told;exact⟨t'++t,by rw[List.foldl_cons,ht,ht',List.append_assoc]⟩
theorem gone_clear (h:bu ps n a) (hf:a.fin≠0):aS a=a:=by
 obtain⟨g1,g2,g3⟩:=h.gone.resolve_left hf;obtain⟨l,hl,ht⟩:=kX.led h.heap;have hn:¬hpB a.heap (a.regs++a.box)=false:=(by simp[h.heap]);have hv:eT a.heap (aC a) l=a.regs:=by
  unfold eT aC;rw[if_neg hn,g1,List.append_nil];conv=>rhs;rw[←List.map_id a.regs]
  refine List.map_congr_left fun v hv=>?_;have h1:=h.vals v (by simp[hv]);rw[g2] at h1;unfold aI;rw[if_neg (fun hk=>by have:=qH h1 hk;simp at this;omega)];rfl
 have hh:gU a.heap (aC a) l=a.heap:=by
  unfold gU aC;rw[if_neg hn,g2];have:a.heap=⟨a.heap.most,a.heap.ah⟩:=rfl;rw[this,g2];rfl
 rw[mo h hl,hv,hh,List.take_of_length_le (by rw[h.regs];exact Nat.le_refl _),List.drop_of_length_le (by rw[h.regs];exact Nat.le_refl _)]
 cases a
 simp_all
theorem ended_act (h:bK ps W) {m:Nat} (hf:(W.at_ m).fin≠0) {d:ig} (hd:d.cK=m):iY ps W d=W:=by
 unfold iY;split
 ·rfl
 ·rename_i hl
  have hm:m<W.aa.length:=(by omega);have e:d.cK.toNat=m:=(by omega);rw[e];split
  ·unfold stepW;rw[if_pos hf]
  ·split
   ·rw[gone_clear (h.at_ hm) hf];exact pO (iJ hm)
   ·unfold gZ gV gH;have:((W.at_ d.cK.toNat).fin==0)=false:=(by rw[e];simpa using hf);rw[this];simp
def loudB (op:Int):Bool:=op==13||op==14||op==15||op==17||op==19
noncomputable def insAt (ps:List (List Ins)) (a:Ac):Ins:=(ps.getD a.kind.toNat []).getD a.pc.toNat ⟨0,0,0,0⟩
noncomputable def stepA (ps:List (List Ins)) (m:Nat) (a:Ac):Ac:=
 if a.fin≠0 then a else if 0≤a.pc then(if fA a (insAt ps a)=0 then(eZ m a (insAt ps a)).aG (bW a (insAt ps a)) else a)
 else match a.box with
  | []=>a
  |v::l=>((a.ai 1 v).aK l).aG 0
theorem tell_fin {x y:Int} {m:Nat}:((gZ W n x y).at_ m).fin=(W.at_ m).fin:=by
 unfold gZ;split
 ·rw[gQ];split
  ·rename_i hh
   rw[hh.1];have hg:∀(a:Ac) (f:Int),(aL a f).fin=a.fin:=fun a f=>by
    unfold aL;split
    ·exact(qg a f).2.2.2
    ·exact(qg a f).2.2.2
   unfold iK;split
   ·exact hg _ _
   ·exact hg _ _
  ·rfl
 ·rfl
theorem alone_step {m:Nat} (hm:m<W.aa.length) (h0:0≤(W.at_ m).pc→loudB (insAt ps (W.at_ m)).op=false) (hl:(W.at_ m).fin=0) (hs:((stepW ps W m).at_ m).fin=0):
  stepW ps W m=W.put m (stepA ps m (W.at_ m))∧(0≤(W.at_ m).pc→fA (W.at_ m) (insAt ps (W.at_ m))=0):=by
 unfold stepW at hs ⊢;unfold stepA;have hnf:¬(W.at_ m).fin≠0:=(by simp[hl]);rw[if_neg hnf] at hs ⊢;rw[if_neg hnf];by_cases hp:0≤(W.at_ m).pc
 ·have hb:=h0 hp;have ha:jv (insAt ps (W.at_ m)).op=false:=by
   unfold loudB at hb;unfold jv;simp only[Bool.or_eq_false_iff] at hb ⊢;exact hb.1
  have hd:kF W m (insAt ps (W.at_ m))=fA (W.at_ m) (insAt ps (W.at_ m)):=(by unfold kF;rw[ha];rfl);rw[if_pos hp] at hs ⊢;rw[if_pos hp];have hi:(ps.getD (W.at_ m).kind.toNat []).getD (W.at_ m).pc.toNat ⟨0,0,0,0⟩=insAt ps (W.at_ m):=rfl;rw[hi,hd] at hs ⊢;by_cases he:fA (W.at_ m) (insAt ps (W.at_ m))=0
  ·rw[if_pos he,if_pos he];refine⟨?_,fun _=>he⟩;unfold didW;rw[ha];rfl
  ·rw[if_neg he] at hs;unfold endW at hs;rw[tell_fin,gQ] at hs;have hlm:m<(kU W m (insAt ps (W.at_ m))).aa.length:=Nat.lt_of_lt_of_le hm (left_more m _).len0;rw[if_pos ⟨rfl,hlm⟩] at hs;exact absurd hs he
 ·rw[if_neg hp] at hs ⊢;rw[if_neg hp];refine⟨?_,fun h=>absurd h hp⟩
  cases hb:(W.at_ m).box with
  |nil=>exact(pO (iJ hm)).symm
  |cons v l=>rfl
theorem put_swap {i j:Nat} {a b:Ac} (h:i≠j):(W.put i a).put j b=(W.put j b).put i a:=by
 unfold Wd.put;simp only[List.set_comm _ _ h]
theorem at_put_ne {i j:Nat} {b:Ac} (h:j≠i):(W.put i b).at_ j=W.at_ j:=by rw[gQ,if_neg (fun e=>h e.1)]
theorem alone_keep {m:Nat} (hm:m<W.aa.length) (h0:0≤(W.at_ m).pc→loudB (insAt ps (W.at_ m)).op=false∧fA (W.at_ m) (insAt ps (W.at_ m))=0) (hl:(W.at_ m).fin=0):stepW ps W m=W.put m (stepA ps m (W.at_ m)):=by
 unfold stepW stepA;have hnf:¬(W.at_ m).fin≠0:=(by simp[hl]);rw[if_neg hnf,if_neg hnf];by_cases hp:0≤(W.at_ m).pc
 ·obtain⟨hb,he⟩:=h0 hp;have ha:jv (insAt ps (W.at_ m)).op=false:=by
   unfold loudB at hb;unfold jv;simp only[Bool.or_eq_false_iff] at hb ⊢;exact hb.1
  have hd:kF W m (insAt ps (W.at_ m))=fA (W.at_ m) (insAt ps (W.at_ m)):=(by unfold kF;rw[ha];rfl);have hi:(ps.getD (W.at_ m).kind.toNat []).getD (W.at_ m).pc.toNat ⟨0,0,0,0⟩=insAt ps (W.at_ m):=rfl;rw[if_pos hp,if_pos hp,hi,hd,if_pos he,if_pos he];unfold didW;rw[ha];rfl
 ·rw[if_neg hp,if_neg hp]
  cases hb:(W.at_ m).box with
  |nil=>exact(pO (iJ hm)).symm
  |cons v l=>rfl
theorem ended_step {m:Nat} (hl:(W.at_ m).fin≠0):stepW ps W m=W:=by unfold stepW;rw[if_pos hl]
end
end
section
open Go.RowKit
theorem spawnS_any (B:Nat) (w0 w:World) (R0:List Res) (nk:Nat) (W:Wd) (L:Lay) (n:Nat) (a:Ac) (op x:Int) (A Bq:Nat) (hA8:A<8) (hB8:Bq<8) (hle:W.aa.length≤8) (h:St B w0 w (stR true nk W L []::R0)) (hH:aA w (Fr 0 (stR true nk W L []::R0)) W L) (ha:W.aa[n]?=some a):
  Calls Tryz.prog 141 #[.pointer (some ⟨L.head,0,none⟩),.int .i64 n,.agg #[.int .i64 op,.int .i64 (A:Nat),.int .i64 (Bq:Nat),.int .i64 x]] w fun e w'=>e= .returned (.int .i64 (eD W n ⟨op,A,Bq,x⟩))∧jy B w0 w nk W L R0 (eG W n ⟨op,A,Bq,x⟩) w':=by
 have hat:W.at_ n=a:=aP ha;by_cases h8:W.aa.length=8
 ·have e1:eD W n ⟨op,A,Bq,x⟩=6:=if_pos h8;have e2:eG W n ⟨op,A,Bq,x⟩=W:=by
   unfold eG;rw[if_pos (by rw[e1];decide)]
  rw[e1,e2];exact spawnA_any B w0 w R0 nk W L n a op x A Bq hA8 hB8 hle h hH ha h8
 ·by_cases hE:dU a.heap (a.reg (Bq:Nat)) ⟨a.heap.most,[]⟩=0
  ·have f1:bC a.heap (a.reg (Bq:Nat)) ⟨a.heap.most,[]⟩ (ay a.heap.ah [a.reg (Bq:Nat)]) true=⟨a.heap.most,bN a.heap.ah (ay a.heap.ah [a.reg (Bq:Nat)])⟩:=if_pos hE;have f2:dA a.heap (a.reg (Bq:Nat)) ⟨a.heap.most,[]⟩ (ay a.heap.ah [a.reg (Bq:Nat)])=⟨a.heap.most,gW a.heap.ah [] (ay a.heap.ah [a.reg (Bq:Nat)]) (ay a.heap.ah [a.reg (Bq:Nat)]).length⟩:=if_pos hE;have e1:eD W n ⟨op,A,Bq,x⟩=0:=by
    unfold eD;rw[hat,if_neg h8];exact if_neg (by simpa using hE)
   have hX:=uI B w0 w R0 nk W L n a op x A Bq hA8 hB8 hle h hH ha h8 0 a.heap.most a.heap.most _ _ (dX a.heap (a.reg (Bq:Nat)) ⟨a.heap.most,[]⟩ (ay a.heap.ah [a.reg (Bq:Nat)])) (fun _=>⟨rfl,rfl⟩) (zG hE) (zG f1) (zG f2) (zG rfl);rw[if_pos rfl,if_pos rfl] at hX;have e2:eG W n ⟨op,A,Bq,x⟩=⟨W.aa.set n (((a.af ⟨a.heap.most,bN a.heap.ah (ay a.heap.ah [a.reg (Bq:Nat)])⟩).ai (Bq:Nat) aQ).ai (A:Nat) ⟨1,W.aa.length⟩)++[dS x n ⟨a.heap.most,gW a.heap.ah [] (ay a.heap.ah [a.reg (Bq:Nat)]) (ay a.heap.ah [a.reg (Bq:Nat)]).length⟩ (dX a.heap (a.reg (Bq:Nat)) ⟨a.heap.most,[]⟩ (ay a.heap.ah [a.reg (Bq:Nat)]))],W.prints⟩:=by
    unfold eG;rw[if_neg (by rw[e1];decide),hat];dsimp only;rw[f1,f2]
   rw[e1,e2];exact hX
  ·have f1:bC a.heap (a.reg (Bq:Nat)) ⟨a.heap.most,[]⟩ (ay a.heap.ah [a.reg (Bq:Nat)]) true=⟨0,[]⟩:=if_neg hE;have f2:dA a.heap (a.reg (Bq:Nat)) ⟨a.heap.most,[]⟩ (ay a.heap.ah [a.reg (Bq:Nat)])=⟨0,[]⟩:=if_neg hE;have e1:eD W n ⟨op,A,Bq,x⟩=8:=by
    unfold eD;rw[hat,if_neg h8];exact if_pos hE
   have e2:eG W n ⟨op,A,Bq,x⟩=W:=by
    unfold eG;rw[if_pos (by rw[e1];decide)]
   have hX:=uI B w0 w R0 nk W L n a op x A Bq hA8 hB8 hle h hH ha h8 _ 0 0 [] [] (dX a.heap (a.reg (Bq:Nat)) ⟨a.heap.most,[]⟩ (ay a.heap.ah [a.reg (Bq:Nat)])) (fun h=>absurd h hE) (zG rfl) (zG f1) (zG f2) (zG rfl);rw[if_neg hE,if_neg hE] at hX;rw[e1,e2];exact hX
end
end
section
open Go.RowKit
theorem run_ok {ps:List (List Ins)} {most:Int} {l:List ig} (hv:(jf ps).2.2=0) (hm:2≤most∧most≤60) (hl:l.length≤3000) (hd:∀d∈l,cO d=0):runE ps most l=0∧runW ps most l=l.foldl (iY ps) (fZ most):=by
 have h0:jc ps most=0:=by
  unfold jc;rw[if_neg (by simp[hv]),if_neg (by omega)]
 have h1:runE ps most l=0:=by
  unfold runE;rw[if_neg (by simp[h0]),if_neg (by omega)];have hf:l.find? (fun d=>cO d !=0)=none:=List.find?_eq_none.2 (fun d h=>by simp[hd d h]);rw[hf]
 exact⟨h1,by unfold runW;rw[if_neg (by simp[h1])]⟩
theorem played {l m:List Rw} {k:Nat} {p:Int} (hk:k≤500) (hp:0≤p):(jf (dB l p)).2.2=0∧(actsK m k).length≤3000∧∀d∈actsK m k,cO d=0:=by
 refine⟨by rw[rD hp],?_,actsK_ok m k⟩;have:=actsK_few m k;omega
theorem twice {ps:List (List Ins)} {most:Int} {l r:List ig} (hv:(jf ps).2.2=0) (hm:2≤most∧most≤60) (hl:(l++r).length≤3000) (hd:∀d∈l++r,cO d=0):runE ps most (l++r)=0∧∃t,(runW ps most (l++r)).prints=(runW ps most l).prints++t:=by
 obtain⟨h1,e1⟩:=run_ok hv hm hl hd;obtain⟨_,e2⟩:=run_ok (l:=l) hv hm (by simp at hl;omega) (fun d h=>hd d (by simp[h]));refine⟨h1,?_⟩;rw[e1,e2,List.foldl_append];exact run_told ps r _
end
end Go.Proofs.YtmgbhhabdapniaaGreatDoor
