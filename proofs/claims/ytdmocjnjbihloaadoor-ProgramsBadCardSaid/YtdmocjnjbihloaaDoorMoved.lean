/- A stage: what is behind a thing that is done in it; its head is written; values that stand one behind the other are read in parts. No condition. The walk of heap.Collect's closure: a list of values, as they are in the other places. Condition: the map tells the new places. -/
import Derived.Test.YtdmocjnjbihloaaDoorStage
import Derived.Test.YtdmocjnjbihloaaDoorSortI
import Derived.Test.YtdmocjnjbihloaaDoorReach
import Derived.Test.YtdmocjnjbihloaaDoorGet
namespace Go.Proofs.YtdmocjnjbihloaaDoor
section
open Go.RowKit
section
variable {B:Nat} {w0 w w':World} {R R0:List Res} {nk:Nat} {W W':Wd} {L L':Lay} {X:List Key}
def fE (B:Nat) (w0 w:World) (nk:Nat) (W:Wd) (L:Lay) (R0:List Res) (W':Wd) (w':World):Prop:=
 ∃L':Lay,L'.head=L.head∧L'.kA=L.kA∧L'.kc=L.kc∧L'.g=L.g∧L'.gc=L.gc∧St B w0 w' (stR true nk W' L' []::R0)∧aA w' (Fr 0 (stR true nk W' L' []::R0)) W' L'∧au w (stR true nk W L []::R0) w' (stR true nk W' L' []::R0)∧w.heap.size≤w'.heap.size
theorem fE.refl (h:St B w0 w (stR true nk W L []::R0)) (hH:aA w (Fr 0 (stR true nk W L []::R0)) W L):fE B w0 w nk W L R0 W w:=⟨L,rfl,rfl,rfl,rfl,rfl,h,hH,au.refl,Nat.le_refl _⟩
theorem St.headPut (h:St B w0 w R) (i:Nat) (hi:R[i]?=some (stR true nk W L X)) (hX:Key.head∉X) (j:Nat) (u:Value) (W':Wd) (L':Lay) (hrow:eB nk L' W'=(eB nk L W).setIfInBounds j u) (hh:L'.head=L.head)
  (hsame:∀k,k≠Key.head→L'.own true nk W' X k=L.own true nk W X k) (hr:∀a∈W'.aa,a.regs.length=8):
  St B w0 (w.setCell ⟨L.head,j,none⟩ u) (R.set i (stR true nk W' L' X))∧au w R (w.setCell ⟨L.head,j,none⟩ u) (R.set i (stR true nk W' L' X)):=by
 have hS:aW true nk W L X w:=h.at_ i hi;have ho:=hS.ok .head;rw[bS hX] at ho;replace ho:w.heap[L.head]?=some (.cells (eB nk L W) 100 (0,0)):=ho;refine h.rG i hi .head (by simp) rfl rfl rfl (fun b _ hn=>Below.heap_setCell _ _ _ _ (fun e=>hn (by rw[bS hX];show b=L.head;exact e))) hsame ?_ (fun b hb=> .inl ?_) hr
 ·rw[bS hX];show(w.setCell ⟨L.head,j,none⟩ u).heap[L'.head]?=some (.cells (eB nk L' W') 100 (0,0))
  rw[hh,hrow];exact jK ho u
 ·rw[bS hX] at hb ⊢;show b=L.head
  exact(show b=L'.head from hb).trans hh
theorem St.headPrints (h:St B w0 w R) (i:Nat) (hi:R[i]?=some (stR true nk W L X)) (hX:Key.head∉X) (hX2:Key.prints∈X) (A:Option Addr) (c:Nat) (ts:List Td):
  St B w0 (w.setCell ⟨L.head,2,none⟩ (.slice A ts.length c)) (R.set i (stR true nk ⟨W.aa,ts⟩ {L with pA:=A,pc:=c} X))∧au w R (w.setCell ⟨L.head,2,none⟩ (.slice A ts.length c)) (R.set i (stR true nk ⟨W.aa,ts⟩ {L with pA:=A,pc:=c} X)):=
 h.headPut i hi hX 2 _ ⟨W.aa,ts⟩ {L with pA:=A,pc:=c} rfl rfl (fun k hk=>by
  by_cases hx:k∈X
  ·rw[lF hx,lF hx]
  rw[bS hx,bS hx]
  cases k with
  |head=>exact absurd rfl hk
  |acts=>rfl
  |prints=>exact absurd hX2 hx
  |regs m=>rfl
  |box m=>rfl) ((show aW true nk W L X w from h.at_ i hi).regs)
theorem rdV_take {S:Nat→Prop} {b o n c:Nat} {xs:List V} (h:aj vE w S (.slice (some ⟨b,o,none⟩) n c) xs) {k:Nat} (hk:k≤xs.length):aj vE w S (.slice (some ⟨b,o,none⟩) k c) (xs.take k):=by
 obtain⟨A,c',hv,h1,h2,h3,h4⟩:=h;injection hv with e1 e2 e3
 subst e1 e3;have hl:(xs.take k).length=k:=(by simp;omega);refine⟨_,c,by rw[hl],by omega,h2,by rw[hl];exact Nat.le_trans (Nat.mul_le_mul_right _ hk) h3,fun hne=>?_⟩;obtain⟨b',o',hA,hS,hi⟩:=h4 (fun e=>hne (by rw[e];simp));refine⟨b',o',hA,hS,fun i x hx=>hi i x ?_⟩;rw[List.getElem?_take] at hx;split at hx
 ·exact hx
 ·cases hx
theorem rdV_drop {S:Nat→Prop} {b o n c:Nat} {xs:List V} (h:aj vE w S (.slice (some ⟨b,o,none⟩) n c) xs) {k:Nat} (hk:k≤xs.length) {A:Option Addr} (hA:xs.length≠k→A=some ⟨b,o+k*2,none⟩):aj vE w S (.slice A (xs.length - k) (c - k)) (xs.drop k):=by
 obtain⟨A',c',hv,h1,h2,h3,h4⟩:=h;injection hv with e1 e2 e3
 subst e1 e3;have hl:(xs.drop k).length=xs.length - k:=(by simp);refine⟨A,c - k,by rw[hl],by rw[hl];omega,by omega,by rw[hl];exact Nat.le_trans (Nat.mul_le_mul_right _ (by omega)) h3,fun hne=>?_⟩;obtain⟨b',o',hA',hS,hi⟩:=h4 (fun e=>hne (by rw[e];simp));injection hA' with hA'
 injection hA' with e1 e2
 subst e1 e2;refine⟨b,o+k*2,hA (fun e=>hne (by rw[List.drop_of_length_le (by omega)])),hS,fun i x hx=>?_⟩;rw[List.getElem?_drop] at hx;obtain⟨cs,q1,q2,q3⟩:=hi (k+i) x hx;refine⟨cs,q1,q2,fun j u hu=>?_⟩;have:=q3 j u hu;have e:o+k*2+i*vE.size+j=o+(k+i)*vE.size+j:=by
  show o+k*2+i*2+j=o+(k+i)*2+j
  rw[Nat.add_mul];omega
 rw[e];exact this
theorem regsRow_is {i:Nat} {a:Ac} {g c:Nat}:kM (L.aO i g c) i a= .row 0 47 2 (.slice (some ⟨g,0,none⟩) 8 c) 8 (cat (vcs a.regs)):=by
 unfold kM Lay.aO;simp only[fQ]
theorem jD {i:Nat} {a:Ac} {A:Option Addr} {c:Nat}:iy (L.aN i A c) i a= .row 0 47 2 (.slice A a.box.length c) a.box.length (cat (vcs a.box)):=by
 unfold iy Lay.aN;simp only[fQ]
end
end
section
open Go.RowKit
def mixV (g:Int→Int) (xs:List V) (k:Nat):List V:=(xs.take k).map (aI g)++xs.drop k
theorem mixV_zero (g:Int→Int) (xs:List V):mixV g xs 0=xs:=by simp[mixV]
theorem mixV_all (g:Int→Int) (xs:List V):mixV g xs xs.length=xs.map (aI g):=by simp[mixV]
theorem mixV_at (g:Int→Int) {xs:List V} {k:Nat} {x:V} (h:xs[k]?=some x):(mixV g xs k)[k]?=some x:=by
 have hl:=(zE.1 h).1;unfold mixV;rw[List.getElem?_append_right (by simp;omega)];simp[Nat.min_eq_left (Nat.le_of_lt hl),h]
theorem mixV_next (g:Int→Int) {xs:List V} {k:Nat} {x:V} (h:xs[k]?=some x):mixV g xs (k+1)=(mixV g xs k).set k (aI g x):=by
 obtain⟨hl,he⟩:=zE.1 h;unfold mixV;rw[List.set_append_right _ _ (by simp;omega),List.take_add_one,h];simp only[List.length_map,List.length_take,Nat.min_eq_left (Nat.le_of_lt hl),Nat.sub_self];rw[List.drop_eq_getElem_cons hl,zB];simp
theorem mixV_next2 (g:Int→Int) {xs:List V} {k:Nat} {x:V} (h:xs[k]?=some x) (hx:x.k=2):mixV g xs (k+1)=(mixV g xs k).set k ⟨x.k,g x.n⟩:=by
 rw[mixV_next g h,aI,if_pos hx,hx]
theorem mixV_next1 (g:Int→Int) {xs:List V} {k:Nat} {x:V} (h:xs[k]?=some x) (hx:¬x.k=2):mixV g xs (k+1)=mixV g xs k:=by
 rw[mixV_next g h,aI,if_neg hx];have hl:=(zE.1 (mixV_at g h));conv=>rhs;rw[←List.set_getElem_self hl.1]
 rw[hl.2]
theorem mixV_len (g:Int→Int) (xs:List V) (k:Nat):(mixV g xs k).length=xs.length:=by simp[mixV];omega
set_option maxRecDepth 100000 in
set_option maxHeartbeats 2000000 in
theorem moved_any (g:Int→Int) (bm b cnt:Nat) (S:Nat→Prop) (A:Option Addr) (c:Nat) (xs:List V) (w:World) (hr:aj vE w S (.slice A xs.length c) xs) (hc:w.cell? ⟨bm,0,none⟩=some (.map (some b)))
  (hm:jb Tryd.prog 3 3 (.int .i64 0) w b cnt (fun k=> .int .i64 (g k))) (hw:∀x∈xs,x.k=2→0≤x.n∧x.n<60):
  Calls Tryd.prog 99 #[.slice A xs.length c,.pointer (some ⟨bm,0,none⟩)] w (ClonedV w (fun _=>False) (xs.map (aI g))):=by
 obtain⟨-,h1,h2,h3⟩:=hr.fw;have hbm:=lt_of_cell hc;have H3:xs.length*16≤140737488355328:=h3;have Hr:=zG hr;have Hc:=zG hc;have Hm:=zG hm;have Hw:=zG hw;clear hr hc hm hw h3;have T0:St w.heap.size w w []:=St.start w (Nat.le_refl _);have HT:=zG T0;have hz:w.heap.size≤w.heap.size:=(by simp);clear T0;go_enter Tryd.func99,Tryd.ntmps99
 go_wp2_with fail;refine(mG _ A c xs w Hr.out).mono ?_;rintro en W1 ⟨v1,rfl,hown,hb⟩;obtain⟨A1,c1,rfl⟩:=rE hown;obtain⟨T',K'⟩:=HT.ownV hb hown (n:=w.heap.size) (Nat.le_refl _);try dsimp only[List.set,List.eraseIdx,zA] at T' K'
 replace HT:=zG T';clear T' K';replace hz:=Nat.le_trans hz hb.size;clear hb hown;clear Hr;go_wp2_with fail;rw[show vcs xs=vcs (mixV g xs 0) by rw[mixV_zero]] at HT;go_loopw [10] (fun i wl1=>∃k:Nat,i= .int .i64 k∧k≤xs.length∧St w.heap.size w wl1 [.row w.heap.size 47 2 (.slice A1 xs.length c1) xs.length (cat (vcs (mixV g xs k)))]∧w.heap.size≤wl1.heap.size) (fun i _=>xs.length - (intOf i).toNat)
 case atStart=>
  refine⟨0,?_,?_,HT.out,hz⟩
  ·rfl
  ·exact Nat.zero_le _
 case round=>
  generalize wr=wl1 at*;clear HT hz;obtain⟨k,rfl,hk,ht,hz⟩:=hrel;have HT:=zG ht;clear ht;by_cases hlt:k<xs.length
  ·obtain⟨x,hx⟩:∃x,xs[k]?=some x:=⟨xs[k],zD hlt⟩;obtain⟨gb,rfl,hgb⟩:=jH (HT.own 0 rfl) (by omega);have hmx:=mixV_at g hx;obtain⟨y0,y1⟩:=HT.vCell 0 rfl hmx;have qT:=fun i=>HT.fD 0 rfl i;have HX:=zG hx;have Hmx:=zG hmx;clear hx hmx;have i1:(0:Int)≤(k:Int):=(by omega);have i2:(k:Int)<(xs.length:Int):=(by omega);go_upto_region 5 with fail;obtain⟨T',K'⟩:=HT.new' #[.int .i64 x.k,.int .i64 x.n] 47 wl1.heap.size;try dsimp only[List.set,List.eraseIdx,zA] at T' K'
   replace HT:=zG T';clear T' K';replace hz:=HT.zz hz;generalize (wl1.alloc (.cells #[.int .i64 x.k,.int .i64 x.n] 47))=W2 at*;clear y0 y1;have h_:=HT.rz 1;by_cases hx2:x.k=2
   ·have hwx:=Hw.out x (zF HX.out) hx2;have hxb:(x.k==2)=true:=(by simpa using hx2);have hbc:W2.cell? ⟨bm,0,none⟩=some (.map (some b)):=(HT.below.cell (p:=⟨bm,0,none⟩) hbm).trans Hc.out;have hm2:=Hm.keep (HT.below.block _ Hm.lt);have hrun:=hm2.lookup (.inr ⟨_,Tryd.underlying3⟩) Tryd.underlying3 Tryd.underlying45 (zeroI _) (wf60 ⟨hwx.1,hwx.2⟩);have hnw:mixV g xs (k+1)=(mixV g xs k).set k ⟨x.k,g x.n⟩:=mixV_next2 g HX.out hx2;have Hnw:=zG hnw;have Hx2:=zG hx2;have qT:=fun i=>HT.fD 1 rfl i;obtain⟨y0,y1⟩:=HT.vCell 1 rfl Hmx.out;clear hm2 hnw hx2;go_upto_region 7 with fail;clear h_;obtain⟨T',K'⟩:=HT.rowPut 1 (k*2+1) (.int .i64 (g x.n)) rfl;try dsimp only[List.set,List.eraseIdx,zA] at T' K'
    replace HT:=zG T';clear T' K';replace hz:=HT.zz hz;rw[vcs_setN Hmx.out,←Hnw.out] at HT;obtain⟨T',K'⟩:=HT.drop 0;try dsimp only[List.set,List.eraseIdx,zA] at T' K'
    replace HT:=zG T';clear T' K';clear hrun hbc qT y0 y1;go_wp2_with fail;go_roundw
    case rel=>
     refine⟨k+1,?_,?_,HT.out,hz⟩
     ·go_num
     ·omega
    case measure=>simp[intOf];omega
   ·have hxb:(x.k==2)=false:=(by simpa using hx2);have hnw:mixV g xs (k+1)=mixV g xs k:=mixV_next1 g HX.out hx2;have Hnw:=zG hnw;clear hnw hx2;go_wp2_with fail;obtain⟨T',K'⟩:=HT.drop 0;try dsimp only[List.set,List.eraseIdx,zA] at T' K'
    replace HT:=zG T';clear T' K';rw[←Hnw.out] at HT;clear h_;go_roundw
    case rel=>
     refine⟨k+1,?_,?_,HT.out,hz⟩
     ·go_num
     ·omega
    case measure=>simp[intOf];omega
  ·have hkk:k=xs.length:=(by omega);subst hkk;rw[mixV_all] at HT;clear hk hlt;go_wp2_with fail;go_ret
   exact⟨_,rfl,HT.outV 0 (xs:=xs.map (aI g)) rfl (by simp) (by simpa using H3) _,HT.below⟩
end
end Go.Proofs.YtdmocjnjbihloaaDoor
