/- The walk of 'BoxesFull': for every input the call returns true, and each argument reads behind it as it did: proved out of the walks. Condition: the row's own: the table of operators reads as the program's text lays it, which the card ties. -/
import Derived.Test.YtdmocjnjbihloaaDoorEchoW
import Derived.Test.YtdmocjnjbihloaaDoorRunOk
import Derived.Test.YtdmocjnjbihloaaDoorActRun
import Derived.Test.YtdmocjnjbihloaaDoorEqual
import Derived.Test.YtdmocjnjbihloaaDoorConcatV
import Derived.Test.YtdmocjnjbihloaaDoorDeedK
import Derived.Test.YtdmocjnjbihloaaDoorFacts
import Derived.Test.YtdmocjnjbihloaaDoorLaid
import Derived.Test.YtdmocjnjbihloaaDoorTie
import Derived.Test.YtdmocjnjbihloaaDoorCards
import Derived.SevenTiedAt
set_option maxRecDepth 100000
namespace Go.Proofs.YtdmocjnjbihloaaDoor.lawBoxesFull
open Go.ChangeShapes Go.WideShapes Go.ChangeAt Go.RowKit
set_option linter.unusedVariables false
def tells (m:Nat):List ig:=(List.range m).map (fun (i:Nat)=>(⟨3,0,i,0⟩:ig))
theorem tells_snoc {m:Nat}:dcs (tells m)++[dc ⟨3,0,m,0⟩]=dcs (tells (m+1)):=by simp[dcs,tells,List.range_succ]
def toldsB (k:Nat):List Td:=(List.range k).map (fun (i:Nat)=>(⟨0,(i:Int)⟩:Td))
theorem toldsB_len (k:Nat):(toldsB k).length=k:=by simp[toldsB]
def tc (t:Td):List Value:=[.int .i64 t.cK,.int .i64 t.n]
def tcs (l:List Td):List (List Value):=l.map tc
theorem tc_one (d:Td):∀u∈tc d,u.oneCell'=true:=fun u hu=>by
 simp[tc] at hu
 rcases hu with rfl|rfl<;>rfl
theorem tcs_held {w:World} {S:Nat→Prop} (l:List Td):Held tdE w S (tcs l) l:=⟨by simp[tcs],fun i x cs hx hc=>by
 simp[tcs,hx] at hc
 subst hc;exact⟨rfl,rfl⟩⟩
theorem tolds_snoc {k:Nat}:tcs (toldsB k)++[tc ⟨0,k⟩]=tcs (toldsB (k+1)):=by simp[tcs,toldsB,List.range_succ]
theorem infoTold:(Tryd.prog.info? 70).map (fun i=>(i.zero,i.size,i.bytes))=some (some (.agg #[.int .i64 0,.int .i64 0]),2,16):=by kernel_rfl
theorem box_runs (q:Nat) (h:q<12):runE echoP 40 (boxActs q)=0∧(runW echoP 40 (boxActs q)).prints=toldsB (min q 6):=by
 obtain⟨h1,h2⟩:=run_ok (ps:=echoP) (most:=40) (l:=boxActs q) (by rw[echo_ver]) (by omega) (by simp[boxActs];omega) (fun d hd=>by
  simp only[boxActs,List.mem_append,List.mem_map,List.mem_range,List.mem_replicate] at hd;rcases hd with⟨i,hi,rfl⟩|⟨_,rfl⟩
  ·unfold cO;dsimp only;rw[if_neg (by omega),if_neg (by omega)]
  ·rfl)
 exact⟨h1,by rw[h2];exact box_run q h⟩
set_option maxRecDepth 100000 in
set_option maxHeartbeats 16000000 in
theorem walk (w:World) (a:Int) (ha: -9223372036854775808≤a∧a≤9223372036854775807) (hu:dV w):
  Calls Tryd.prog 8 #[.int .i64 a] w fun e w'=>e= .returned (.bool true)∧Below w.heap.size w w':=by
 have Hu:=zG hu;have hkl:=jk a 12 (by omega);have Gk:=zG (fun W=>iA a 12 ha.1 ha.2 (by omega) (by omega) W);generalize bI a 12=kc at*;obtain⟨q,rfl⟩:=Int.eq_ofNat_of_zero_le hkl.1;have hq:q<12:=(by omega);obtain⟨hE,hP⟩:=box_runs q hq;have HE:=zG hE;have HP:=zG hP;clear hu ha hkl hE hP;have T0:St w.heap.size w w []:=St.start w (Nat.le_refl _);have HT:=zG T0;have hz:w.heap.size≤w.heap.size:=(by simp);clear T0;go_enter Tryd.func8,Tryd.ntmps8
 go_upto_region 3 with fail;refine(Gk.out _).mono ?_;rintro en W' ⟨rfl,rfl⟩;go_upto_region 3 with fail;replace HT:=sp0 (HT.out.kg w.heap.size 51 4);go_wp2_with fail;go_loopw [13,4] (fun i vs wl1=>∃(m:Nat) (vw:Value),i= .int .i64 m∧vw=vs∧m≤q∧St w.heap.size w wl1 [.row w.heap.size 51 4 vw m (cat (dcs (tells m)))]∧w.heap.size≤wl1.heap.size) (fun i _ _=>q - (intOf i).toNat)
 case atStart=>
  refine⟨0,.slice none 0 0,?_,?_,?_,?_,?_⟩
  ·rfl
  ·rfl
  ·omega
  ·exact HT.out
  ·exact hz
 case round=>
  generalize wr=wl1 at*;clear HT hz;obtain⟨m,vw,rfl,rfl,hm,ht,hz⟩:=hrel;have HT:=zG ht;clear ht;obtain⟨Ao,co,rfl⟩:=bZ (HT.out.own 0 rfl);replace HT:Hid (St w.heap.size w wl1 [.row w.heap.size 51 4 (.slice Ao m co) m (cat (dcs (tells m)))]):=HT;by_cases hlt:m<q
  ·have i1:(m:Int)<(q:Int):=(by omega);go_wp2_with (at_builtin;go_loud (refine aM rfl (.tmp 16) (.tmp 19) _ rfl (e:=51) (size:=4) (bytes:=32) Tryd.underlying27 infoDeed rfl (by omega) HT.out 0 rfl rfl (dc ⟨3,0,m,0⟩) 51 rfl rfl (dc_one _) (by unfold maxLen;omega) (by omega) HT.out.base ?next))
   case next=>
    intro A2 c3 W4 T' K' hs3;try rw[tells_snoc] at T' K'
    replace T':St w.heap.size w W4 [.row w.heap.size 51 4 (.slice A2 (m+1) c3) (m+1) (cat (dcs (tells (m+1))))]:=T';replace K':au wl1 [.row w.heap.size 51 4 (.slice Ao m co) m (cat (dcs (tells m)))] W4 [.row w.heap.size 51 4 (.slice A2 (m+1) c3) (m+1) (cat (dcs (tells (m+1))))]:=K';replace HT:=zG T';replace hz:w.heap.size≤W4.heap.size:=(by omega);clear T' K';go_wp2_with fail;go_roundw
    case rel=>
     refine⟨m+1,.slice A2 (m+1) c3,?_,?_,?_,?_,?_⟩
     ·go_num
     ·rfl
     ·omega
     ·with_reducible exact HT.out
     ·exact hz
    case measure=>simp[intOf];omega
  ·have i1:¬(m:Int)<(q:Int):=(by omega);obtain rfl:m=q:=(by omega);go_wp2_with fail;replace HT:Hid (St w.heap.size w wl1 [.row w.heap.size 51 4 (.slice Ao m co) ((m+0)) (cat (dcs (tells m++List.replicate 0 ⟨1,0,0,0⟩)))]):=(by simpa using HT);go_loopw [22,4] (fun i vs wl5=>∃(j:Nat) (vw:Value),i= .int .i64 j∧vw=vs∧j≤84∧St w.heap.size w wl5 [.row w.heap.size 51 4 vw ((m+j)) (cat (dcs (tells m++List.replicate j ⟨1,0,0,0⟩)))]∧w.heap.size≤wl5.heap.size) (fun i _ _=>84 - (intOf i).toNat)
   case atStart=>
    refine⟨0,.slice Ao m co,?_,?_,?_,?_,?_⟩
    ·rfl
    ·rfl
    ·omega
    ·exact HT.out
    ·exact hz
   case round=>
    generalize wr=wl5 at*;clear HT hz;obtain⟨j,vw,rfl,rfl,hj,ht,hz⟩:=hrel;have HT:=zG ht;clear ht;obtain⟨Ap,cp,rfl⟩:=bZ (HT.out.own 0 rfl);replace HT:Hid (St w.heap.size w wl5 [.row w.heap.size 51 4 (.slice Ap (m+j) cp) ((m+j)) (cat (dcs (tells m++List.replicate j ⟨1,0,0,0⟩)))]):=HT;by_cases hlt2:j<84
    ·have i2:(j:Int)<84:=(by omega);go_wp2_with (at_builtin;go_loud (refine aM rfl (.tmp 24) (.tmp 26) _ rfl (e:=51) (size:=4) (bytes:=32) Tryd.underlying27 infoDeed rfl (by omega) HT.out 0 rfl rfl (dc ⟨1,0,0,0⟩) 51 rfl rfl (dc_one _) (by unfold maxLen;omega) (by omega) HT.out.base ?next))
     case next=>
      intro A6 c7 W8 T' K' hs3;try rw[steps_snoc] at T' K'
      replace T':St w.heap.size w W8 [.row w.heap.size 51 4 (.slice A6 (m+j+1) c7) (m+j+1) (cat (dcs (tells m++List.replicate (j+1) ⟨1,0,0,0⟩)))]:=T';replace K':au wl5 [.row w.heap.size 51 4 (.slice Ap (m+j) cp) ((m+j)) (cat (dcs (tells m++List.replicate j ⟨1,0,0,0⟩)))] W8 [.row w.heap.size 51 4 (.slice A6 (m+j+1) c7) (m+j+1) (cat (dcs (tells m++List.replicate (j+1) ⟨1,0,0,0⟩)))]:=K';replace HT:=zG T';replace hz:w.heap.size≤W8.heap.size:=(by omega);clear T' K';go_wp2_with fail;replace HT:Hid (St w.heap.size w W8 [.row w.heap.size 51 4 (.slice A6 (m+(j+1)) c7) ((m+(j+1))) (cat (dcs (tells m++List.replicate (j+1) ⟨1,0,0,0⟩)))]):=HT;go_roundw
      case rel=>
       refine⟨j+1,.slice A6 (m+(j+1)) c7,?_,?_,?_,?_,?_⟩
       ·go_num
       ·rfl
       ·omega
       ·with_reducible exact HT.out
       ·exact hz
      case measure=>simp[intOf];omega
    ·have i2:¬(j:Int)<84:=(by omega);obtain rfl:j=84:=(by omega);go_wp2_with fail;refine(echo_any _).mono ?_;rintro en W9 ⟨B1,d1,rfl,hrp,hb⟩;have Hfresh:=zG (HT.out);have hzo:w.heap.size≤wl5.heap.size:=(by omega);replace HT:=sp0 (HT.out.call hb);replace hz:=Nat.le_trans hz hb.size;clear hb;have Hp:Hid (aj pgE W9 (Fr w.heap.size [.row w.heap.size 51 4 (.slice Ap (m+84) cp) ((m+84)) (cat (dcs (tells m++List.replicate 84 ⟨1,0,0,0⟩)))]) (.slice B1 2 d1) echoP):=zG (hrp.fresh (by first|decide|(show 0<1;omega)) Hfresh.out hzo);clear hrp;clear Hfresh hzo;go_wp2_with fail;have hl9:(boxActs m).length=m+84:=(by simp[boxActs]);have hrd:aj deedE W9 (fun b=>0≤b) (.slice Ap (m+84) cp) (boxActs m):=HT.out.iM (E:=deedE) (n:=0) 0 rfl rfl hl9.symm (dcs_held _) (by rw[hl9];show(m+84)*32≤140737488355328;omega) (Nat.zero_le _) (by decide);rw[show m+84=(boxActs m).length from hl9.symm] at hrd;have GR:=run_any _ _ B1 Ap d1 cp echoP 40 (boxActs m) W9 (Hu.out.below HT.out.below) Hp.out hrd;rw[hl9] at GR;unfold RunD at GR;rw[HE.out] at GR;generalize runW echoP 40 (boxActs m)=V at*;obtain⟨va,vp⟩:=V;obtain rfl:vp=toldsB (min m 6):=HP.out;dsimp only[List.length] at GR;simp only[toldsB_len] at GR;have HGR:=zG GR;clear GR hrd hl9 HP;refine(HGR.out).mono ?_;rintro en W10 ⟨A5,c5,B5,d5,rfl,hra,hrt,hb⟩;clear hra HGR;have Hfresh:=zG (HT.out);have hzo:w.heap.size≤W9.heap.size:=(by omega);replace⟨HT,Hp⟩:=sp1 (HT.out.call hb) Hp.s;replace hz:=Nat.le_trans hz hb.size;clear hb;have Ht:Hid (aj tdE W10 (Fr w.heap.size [.row w.heap.size 51 4 (.slice Ap (m+84) cp) ((m+84)) (cat (dcs (tells m++List.replicate 84 ⟨1,0,0,0⟩)))]) (.slice B5 (min m 6) d5) (toldsB (min m 6))):=zG (hrt.fresh (by first|decide|(show 0<1;omega)) Hfresh.out hzo);clear hrt;clear Hfresh hzo;have hm6:min m 6≤6:=Nat.min_le_right _ _;obtain⟨K,hK⟩:∃K,min m 6=K:=⟨_,rfl⟩;rw[hK] at hm6 Ht ⊢;have hKi:min (m:Int) 6=(K:Int):=(by omega);have HKi:=zG hKi;clear hK hKi;replace Ht:Hid (aj tdE W10 (Fr w.heap.size [.row w.heap.size 51 4 (.slice Ap (m+84) cp) ((m+84)) (cat (dcs (tells m++List.replicate 84 ⟨1,0,0,0⟩)))]) (.slice B5 K d5) (toldsB K)):=Ht;go_upto_region 13 with fail;replace⟨HT,Hp,Ht⟩:=sp2 (HT.out.new' #[.slice A5 va.length c5,.slice B5 K d5] 31 W10.heap.size (by first|(simp;done)|rfl)) Hp.s Ht.s;replace hz:=HT.zz hz;generalize (W10.alloc (.cells #[.slice A5 va.length c5,.slice B5 K d5] 31))=W11 at*;have h_:=HT.rz 1;replace⟨HT,Hp,Ht⟩:=sp2 (HT.out.kg w.heap.size 70 2) Hp.s Ht.s;go_wp2_with fail;rw[HKi.out];go_loopw [37,8] (fun i vs wl12=>∃(j:Nat) (vw:Value),i= .int .i64 j∧vw=vs∧j≤K∧St w.heap.size w wl12 [.row w.heap.size 70 2 vw j (cat (tcs (toldsB j))),.blk W10.heap.size #[.slice A5 va.length c5,.slice B5 K d5] 31,.row w.heap.size 51 4 (.slice Ap (m+84) cp) ((m+84)) (cat (dcs (tells m++List.replicate 84 ⟨1,0,0,0⟩)))]∧aj pgE wl12 (Fr w.heap.size [.row w.heap.size 70 2 vw j (cat (tcs (toldsB j))),.blk W10.heap.size #[.slice A5 va.length c5,.slice B5 K d5] 31,.row w.heap.size 51 4 (.slice Ap (m+84) cp) ((m+84)) (cat (dcs (tells m++List.replicate 84 ⟨1,0,0,0⟩)))]) (.slice B1 2 d1) echoP∧aj tdE wl12 (Fr w.heap.size [.row w.heap.size 70 2 vw j (cat (tcs (toldsB j))),.blk W10.heap.size #[.slice A5 va.length c5,.slice B5 K d5] 31,.row w.heap.size 51 4 (.slice Ap (m+84) cp) ((m+84)) (cat (dcs (tells m++List.replicate 84 ⟨1,0,0,0⟩)))]) (.slice B5 K d5) (toldsB K)∧w.heap.size≤wl12.heap.size) (fun i _ _=>K - (intOf i).toNat)
     case atStart=>
      refine⟨0,.slice none 0 0,?_,?_,?_,?_,?_,?_,?_⟩
      ·rfl
      ·rfl
      ·omega
      ·exact HT.out
      ·exact Hp.out
      ·exact Ht.out
      ·exact hz
     case round=>
      generalize wr=wl12 at*;clear HT Hp Ht hz;obtain⟨j,vw,rfl,rfl,hj,ht,pHp,pHt,hz⟩:=hrel;have HT:=zG ht;have Hp:Hid (aj pgE wl12 (Fr w.heap.size [.row w.heap.size 70 2 vw j (cat (tcs (toldsB j))),.blk W10.heap.size #[.slice A5 va.length c5,.slice B5 K d5] 31,.row w.heap.size 51 4 (.slice Ap (m+84) cp) ((m+84)) (cat (dcs (tells m++List.replicate 84 ⟨1,0,0,0⟩)))]) (.slice B1 2 d1) echoP):=zG pHp;have Ht:Hid (aj tdE wl12 (Fr w.heap.size [.row w.heap.size 70 2 vw j (cat (tcs (toldsB j))),.blk W10.heap.size #[.slice A5 va.length c5,.slice B5 K d5] 31,.row w.heap.size 51 4 (.slice Ap (m+84) cp) ((m+84)) (cat (dcs (tells m++List.replicate 84 ⟨1,0,0,0⟩)))]) (.slice B5 K d5) (toldsB K)):=zG pHt;clear ht pHp pHt;obtain⟨Ak,ck,rfl⟩:=bZ (HT.out.own 0 rfl);replace HT:Hid (St w.heap.size w wl12 [.row w.heap.size 70 2 (.slice Ak j ck) j (cat (tcs (toldsB j))),.blk W10.heap.size #[.slice A5 va.length c5,.slice B5 K d5] 31,.row w.heap.size 51 4 (.slice Ap (m+84) cp) ((m+84)) (cat (dcs (tells m++List.replicate 84 ⟨1,0,0,0⟩)))]):=HT;replace Hp:Hid (aj pgE wl12 (Fr w.heap.size [.row w.heap.size 70 2 (.slice Ak j ck) j (cat (tcs (toldsB j))),.blk W10.heap.size #[.slice A5 va.length c5,.slice B5 K d5] 31,.row w.heap.size 51 4 (.slice Ap (m+84) cp) ((m+84)) (cat (dcs (tells m++List.replicate 84 ⟨1,0,0,0⟩)))]) (.slice B1 2 d1) echoP):=Hp;replace Ht:Hid (aj tdE wl12 (Fr w.heap.size [.row w.heap.size 70 2 (.slice Ak j ck) j (cat (tcs (toldsB j))),.blk W10.heap.size #[.slice A5 va.length c5,.slice B5 K d5] 31,.row w.heap.size 51 4 (.slice Ap (m+84) cp) ((m+84)) (cat (dcs (tells m++List.replicate 84 ⟨1,0,0,0⟩)))]) (.slice B5 K d5) (toldsB K)):=Ht;have h_:=HT.rz 1;by_cases hlt3:j<K
      ·have i3:(j:Int)<(K:Int):=(by omega);go_wp2_with (at_builtin;go_loud (refine aM rfl (.tmp 40) (.tmp 43) _ rfl (e:=70) (size:=2) (bytes:=16) Tryd.underlying29 infoTold rfl (by omega) HT.out 0 rfl rfl (tc ⟨0,j⟩) 70 rfl rfl (tc_one _) (by unfold maxLen;omega) (by omega) HT.out.base ?next))
       case next=>
        intro A13 c14 W15 T' K' hs3;try rw[tolds_snoc] at T' K'
        clear h_;replace T':St w.heap.size w W15 [.row w.heap.size 70 2 (.slice A13 (j+1) c14) (j+1) (cat (tcs (toldsB (j+1)))),.blk W10.heap.size #[.slice A5 va.length c5,.slice B5 K d5] 31,.row w.heap.size 51 4 (.slice Ap (m+84) cp) ((m+84)) (cat (dcs (tells m++List.replicate 84 ⟨1,0,0,0⟩)))]:=T';replace K':au wl12 [.row w.heap.size 70 2 (.slice Ak j ck) j (cat (tcs (toldsB j))),.blk W10.heap.size #[.slice A5 va.length c5,.slice B5 K d5] 31,.row w.heap.size 51 4 (.slice Ap (m+84) cp) ((m+84)) (cat (dcs (tells m++List.replicate 84 ⟨1,0,0,0⟩)))] W15 [.row w.heap.size 70 2 (.slice A13 (j+1) c14) (j+1) (cat (tcs (toldsB (j+1)))),.blk W10.heap.size #[.slice A5 va.length c5,.slice B5 K d5] 31,.row w.heap.size 51 4 (.slice Ap (m+84) cp) ((m+84)) (cat (dcs (tells m++List.replicate 84 ⟨1,0,0,0⟩)))]:=K';replace HT:=zG T';replace Hp:=zG (Hp.out.move (by decide) K');replace Ht:=zG (Ht.out.move (by decide) K');replace hz:w.heap.size≤W15.heap.size:=(by omega);clear T' K';have h_:=HT.rz 1;go_wp2_with fail;clear h_;go_roundw
        case rel=>
         refine⟨j+1,.slice A13 (j+1) c14,?_,?_,?_,?_,?_,?_,?_⟩
         ·go_num
         ·rfl
         ·omega
         ·with_reducible exact HT.out
         ·with_reducible exact Hp.out
         ·with_reducible exact Ht.out
         ·exact hz
        case measure=>simp[intOf];omega
      ·have i3:¬(j:Int)<(K:Int):=(by omega);obtain rfl:j=K:=(by omega);go_wp2_with fail;have hk9:aj tdE wl12 (fun b=>0≤b) (.slice Ak j ck) (toldsB j):=HT.out.iM (E:=tdE) (n:=0) 0 rfl rfl (toldsB_len j).symm (tcs_held _) (by rw[toldsB_len];show j*16≤140737488355328;omega) (Nat.zero_le _) (by decide);have GE:=equalT_eq _ _ B5 Ak d5 ck (toldsB j) wl12 (by rw[toldsB_len];exact Ht.out) (by rw[toldsB_len];exact hk9);rw[toldsB_len] at GE;refine GE.mono ?_;rintro en W' ⟨rfl,qn,rfl⟩;clear GE;go_wp2_with fail;go_ret
       exact⟨rfl,below_drewN HT.out.below qn⟩
theorem lifted (os:Os) (started:os.Started) (H:Type) (enc:TypeId×Value→H):
  ReturnsInHanded {} Tryd.checked os 8 .any (fun w args=>(Rows.boxesFullSpec.pre enc Tryd.prog Tryd.f8 [] false w args∧laidMetH Tryd.prog Rows.boxesFullRow.laid w)∧sizedMet enc Tryd.prog Tryd.f8 (OpenSpec.ofChange Rows.boxesFullSpec) false w args) (Rows.boxesFullSpec.post enc Tryd.prog Tryd.f8 false true false false):=by
 refine returnsInHanded_of_change_and (C:=Tryd.checked) (X:=fun w _=>laidMetH Tryd.prog Rows.boxesFullRow.laid w) (fun _ _ _ hh h=>h.of_heap hh) own started (by kernel_rfl) Tryd.func8
  (ChangeSpec.witness_shaped (enc:=enc) (C:=Tryd.checked) (os:=os) (X:=fun w _=>laidMetH Tryd.prog Rows.boxesFullRow.laid w) false (World.doorLaid Tryd.prog 400 os) #[.int .i64 0] 8 rfl (World.shaped_of_RefB (by kernel_rfl) (by kernel_rfl)) (by kernel_rfl) (by kernel_rfl) (by kernel_rfl) (door_met os _)) ?_
 intro W base args ds gs before hval0 hW _ hsz0 hL _;have hval:∀(j:Nat) t v,Tryd.f8.params[j]?=some t→args[j]?=some v→Value.okWide Tryd.prog W .any base t v:=hval0;have hsz:(DataW.weightsEach Tryd.prog (Tryd.f8.params.toList++Rows.boxesFullSpec.plain.varTypes Tryd.prog) (ds++gs)).all (· ≤reachBytes)=true:=hsz0;have hW':=hW;obtain⟨p,q,hA0,hV,rfl,hfz,hnd⟩:=hW;have hA:DataW.TrodAll enc Tryd.prog W 0 (fun _=>true) true Tryd.f8.params.toList args.toList ds p:=hA0;rw[Tryd.params8] at hA hval hsz;obtain⟨v0,vs0,d0,ds0,p0,q0,hargs,rfl,rfl,h0,r0⟩:=trodAll_cons hA;obtain⟨rfl,rfl,rfl⟩:=trodAll_nil r0;obtain rfl:args= #[v0]:=(by cases args;simp_all);obtain⟨rfl,rfl⟩:=trodVars_none hV;obtain⟨a0,rfl,-,-,w0⟩:=open_int Tryd.underlying3 (hval 0 3 v0 rfl rfl) h0;clear hA0 hval0 hsz0;refine(walk W a0 (wf_i64_range w0) (uses_of hL)).mono fun e W' ⟨he,hb⟩=>?_;subst he;exact⟨_,rfl,law_post (tb:=4) laidOut Tryd.underlying4 (by kernel_rfl) (by rw[Tryd.params8];exact all_types (by kernel_rfl)) rfl hW' rfl hb⟩
theorem closed:joinedFacts Tryd.prog 8 Tryd.f8 Rows.boxesFullSpec Rows.boxesFullRow=true:=
 facts_of (by kernel_rfl) laidOut fact_rowed (by kernel_rfl) (by kernel_rfl) (by kernel_rfl) fact_stops (by kernel_rfl) fact_knobs (by kernel_rfl) (by kernel_rfl) (by kernel_rfl) (by kernel_rfl) (by kernel_rfl) (by kernel_rfl) (by kernel_rfl) (by kernel_rfl) (by kernel_rfl) (by kernel_rfl) (by kernel_rfl) (by kernel_rfl) (by kernel_rfl) (by kernel_rfl) (by kernel_rfl) fact_heard fact_may (by rw[fact_lifts];rfl) fact_make ⟨rfl,rfl⟩ (by kernel_rfl) (by kernel_rfl) (by kernel_rfl)
theorem over:Rows.boxesFullRow.holds Tryd.pinned (OpenSpec.ofChange Rows.boxesFullSpec):=
 OpenClaim.holds_of_wide 8 Tryd.f8 rfl rfl rfl rfl rfl rfl rfl ⟨rfl,rfl,rfl,rfl,rfl⟩ rfl rfl rfl rfl rfl (by kernel_rfl) Tryd.func8 closed
  (of_decide_eq_true (by kernel_rfl)) (by unfold Func.isWrapper;first|(rw[if_pos (by decide+kernel)];kernel_rfl)|(rw[if_neg (by decide+kernel)];exact⟨rfl,rfl⟩))
  (fun os started H enc _=>lifted os started H enc)
end Go.Proofs.YtdmocjnjbihloaaDoor.lawBoxesFull
