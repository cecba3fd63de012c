/- What acts leave as it was: plain laws of runs. No condition; no run. The stage's spawn, all ways together. Condition: the stage is there; registers are in their bounds. A script of acts that may be done is run whole; what was told stays told. In plain Lean. No condition; no run. -/
import Derived.Test.YtdmocjnjbihloaaDoorMayS
import Derived.Test.YtdmocjnjbihloaaDoorStage
import Derived.Test.YtdmocjnjbihloaaDoorActN
import Derived.Test.YtdmocjnjbihloaaDoorActQ
namespace Go.Proofs.YtdmocjnjbihloaaDoor
section
section
open Go.RowKit
section
variable {ps:List (List Ins)} {W:Wd} {n:Int} {a:Ac}
structure More (W W':Wd):Prop where
 told:∃l,W'.prints=W.prints++l
 len0:W.aa.length≤W'.aa.length
 len1:W'.aa.length≤W.aa.length+1
theorem More.same {W W':Wd} (hp:W'.prints=W.prints) (hl:W'.aa.length=W.aa.length):More W W':=⟨⟨[],by rw[hp,List.append_nil]⟩,by omega,by omega⟩
theorem More.refl (W:Wd):More W W:= .same rfl rfl
theorem More.then {W W' W2:Wd} (h:More W W') (hp:W2.prints=W'.prints) (hl:W2.aa.length=W'.aa.length):More W W2:=⟨by rw[hp];exact h.told,by rw[hl];exact h.len0,by rw[hl];exact h.len1⟩
theorem More.after {W W' W2:Wd} (hp:W'.prints=W.prints) (hl:W'.aa.length=W.aa.length) (h:More W' W2):More W W2:=⟨by rw[←hp];exact h.told,by rw[←hl];exact h.len0,by rw[←hl];exact h.len1⟩
theorem room_more (m t:Nat) (r:Int):(iI W m t r).prints=W.prints∧(iI W m t r).aa.length=W.aa.length:=by
 unfold iI;split
 ·exact⟨rfl,dx⟩
 ·exact⟨rfl,rfl⟩
theorem put_swap {i j:Nat} {a b:Ac} (h:i≠j):(W.put i a).put j b=(W.put j b).put i a:=by
 unfold Wd.put;simp only[List.set_comm _ _ h]
end
end
section
open Go.RowKit
theorem spawnS_any (B:Nat) (w0 w:World) (R0:List Res) (nk:Nat) (W:Wd) (L:Lay) (n:Nat) (a:Ac) (op x:Int) (A Bq:Nat) (hA8:A<8) (hB8:Bq<8) (hle:W.aa.length≤8) (h:St B w0 w (stR true nk W L []::R0)) (hH:aA w (Fr 0 (stR true nk W L []::R0)) W L) (ha:W.aa[n]?=some a):
  Calls Tryd.prog 101 #[.pointer (some ⟨L.head,0,none⟩),.int .i64 n,.agg #[.int .i64 op,.int .i64 (A:Nat),.int .i64 (Bq:Nat),.int .i64 x]] w fun e w'=>e= .returned (.int .i64 (eD W n ⟨op,A,Bq,x⟩))∧jy B w0 w nk W L R0 (eG W n ⟨op,A,Bq,x⟩) w':=by
 have hat:W.at_ n=a:=aP ha;by_cases h8:W.aa.length=8
 ·have e1:eD W n ⟨op,A,Bq,x⟩=6:=if_pos h8;have e2:eG W n ⟨op,A,Bq,x⟩=W:=by
   unfold eG;rw[if_pos (by rw[e1];decide)]
  rw[e1,e2];exact spawnA_any B w0 w R0 nk W L n a op x A Bq hA8 hB8 hle h hH ha h8
 ·by_cases hE:dU a.heap (a.reg (Bq:Nat)) ⟨a.heap.most,[]⟩=0
  ·have f1:bC a.heap (a.reg (Bq:Nat)) ⟨a.heap.most,[]⟩ (ay a.heap.ah [a.reg (Bq:Nat)]) true=⟨a.heap.most,bN a.heap.ah (ay a.heap.ah [a.reg (Bq:Nat)])⟩:=if_pos hE;have f2:dA a.heap (a.reg (Bq:Nat)) ⟨a.heap.most,[]⟩ (ay a.heap.ah [a.reg (Bq:Nat)])=⟨a.heap.most,gW a.heap.ah [] (ay a.heap.ah [a.reg (Bq:Nat)]) (ay a.heap.ah [a.reg (Bq:Nat)]).length⟩:=if_pos hE;have e1:eD W n ⟨op,A,Bq,x⟩=0:=by
    unfold eD;rw[hat,if_neg h8];exact if_neg (by simpa using hE)
   have hX:=uI B w0 w R0 nk W L n a op x A Bq hA8 hB8 hle h hH ha h8 0 a.heap.most a.heap.most _ _ (dX a.heap (a.reg (Bq:Nat)) ⟨a.heap.most,[]⟩ (ay a.heap.ah [a.reg (Bq:Nat)])) (fun _=>⟨rfl,rfl⟩) (zG hE) (zG f1) (zG f2) (zG rfl);rw[if_pos rfl,if_pos rfl] at hX;have e2:eG W n ⟨op,A,Bq,x⟩=⟨W.aa.set n (((a.af ⟨a.heap.most,bN a.heap.ah (ay a.heap.ah [a.reg (Bq:Nat)])⟩).ai (Bq:Nat) aQ).ai (A:Nat) ⟨1,W.aa.length⟩)++[dS x n ⟨a.heap.most,gW a.heap.ah [] (ay a.heap.ah [a.reg (Bq:Nat)]) (ay a.heap.ah [a.reg (Bq:Nat)]).length⟩ (dX a.heap (a.reg (Bq:Nat)) ⟨a.heap.most,[]⟩ (ay a.heap.ah [a.reg (Bq:Nat)]))],W.prints⟩:=by
    unfold eG;rw[if_neg (by rw[e1];decide),hat];dsimp only;rw[f1,f2]
   rw[e1,e2];exact hX
  ·have f1:bC a.heap (a.reg (Bq:Nat)) ⟨a.heap.most,[]⟩ (ay a.heap.ah [a.reg (Bq:Nat)]) true=⟨0,[]⟩:=if_neg hE;have f2:dA a.heap (a.reg (Bq:Nat)) ⟨a.heap.most,[]⟩ (ay a.heap.ah [a.reg (Bq:Nat)])=⟨0,[]⟩:=if_neg hE;have e1:eD W n ⟨op,A,Bq,x⟩=8:=by
    unfold eD;rw[hat,if_neg h8];exact if_pos hE
   have e2:eG W n ⟨op,A,Bq,x⟩=W:=by
    unfold eG;rw[if_pos (by rw[e1];decide)]
   have hX:=uI B w0 w R0 nk W L n a op x A Bq hA8 hB8 hle h hH ha h8 _ 0 0 [] [] (dX a.heap (a.reg (Bq:Nat)) ⟨a.heap.most,[]⟩ (ay a.heap.ah [a.reg (Bq:Nat)])) (fun h=>absurd h hE) (zG rfl) (zG f1) (zG f2) (zG rfl);rw[if_neg hE,if_neg hE] at hX;rw[e1,e2];exact hX
end
end
section
open Go.RowKit
theorem run_ok {ps:List (List Ins)} {most:Int} {l:List ig} (hv:(jf ps).2.2=0) (hm:2≤most∧most≤60) (hl:l.length≤3000) (hd:∀d∈l,cO d=0):runE ps most l=0∧runW ps most l=l.foldl (iY ps) (fZ most):=by
 have h0:jc ps most=0:=by
  unfold jc;rw[if_neg (by simp[hv]),if_neg (by omega)]
 have h1:runE ps most l=0:=by
  unfold runE;rw[if_neg (by simp[h0]),if_neg (by omega)];have hf:l.find? (fun d=>cO d !=0)=none:=List.find?_eq_none.2 (fun d h=>by simp[hd d h]);rw[hf]
 exact⟨h1,by unfold runW;rw[if_neg (by simp[h1])]⟩
theorem played {l m:List Rw} {k:Nat} {p:Int} (hk:k≤500) (hp:0≤p):(jf (dB l p)).2.2=0∧(actsK m k).length≤3000∧∀d∈actsK m k,cO d=0:=by
 refine⟨by rw[rD hp],?_,actsK_ok m k⟩;have:=actsK_few m k;omega
end
end Go.Proofs.YtdmocjnjbihloaaDoor
