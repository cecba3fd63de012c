/- The walk of treadwheelkeep.WorldTells; what is not verified. Condition: the table of operators is there. -/
import Derived.Test.YtmgbhhabdapniaaGreatDoorSet
import Derived.Test.YtmgbhhabdapniaaGreatDoorActQ
import Derived.Test.YtmgbhhabdapniaaGreatDoorActNew
import Derived.Test.YtmgbhhabdapniaaGreatDoorKProg
namespace Go.Proofs.YtmgbhhabdapniaaGreatDoor
section
open Go.RowKit
end
section
open Go.RowKit
theorem newL_any (S:Nat→Prop) (A:Option Addr) (c:Nat) (ps:List (List Ins)) (most:Int) (w:World) (hE:jc ps most=0) (hu:dV w) (hr:aj pgE w S (.slice A ps.length c) ps):
  Calls Tryz.prog 22 #[.agg #[.slice A ps.length c],.int .i64 most] w fun e w'=>∃A c,e= .returned (.tuple #[.agg #[.slice A 1 c,.slice none 0 0],.int .i64 0])∧Below w.heap.size w w':=
 (rY S A c ps most w hE hu hr).mono fun _ _ ⟨_,_,_,he,hT,_⟩=>⟨_,_,he,hT.below⟩
set_option maxHeartbeats 4000000 in
theorem worldTells_any (w:World) (hu:dV w):Calls Tryz.prog 16 #[] w fun e w'=>e= .returned (.bool true)∧Below w.heap.size w w':=by
 have Hu:=zG hu;obtain⟨ps,hps⟩:∃ps,dB [] 2=ps:=⟨_,rfl⟩;have hE:jc ps 10=0:=(by rw[←hps];unfold jc;rw[rD (by omega)];rfl);have h3:ps.length=3:=(by rw[←hps];exact jF [] 2);have GP:=programK_any (fun _=>True) none 0 [] 2;rw[hps] at GP;have GG:=zG GP;have HE:=zG hE;clear hu hE hps GP;have T0:St w.heap.size w w []:=St.start w (Nat.le_refl _);have HT:=zG T0;have hz:w.heap.size≤w.heap.size:=(by simp);clear T0;go_enter Tryz.func16,Tryz.ntmps16
 go_wp2_with fail;refine(GG.out _ (by omega) (Hu.below HT.below) aj.nil).mono ?_;rintro en W1 ⟨B1,d1,rfl,hrp,hb⟩;have Hfresh:=zG (HT.out);have hzo:w.heap.size≤w.heap.size:=(by omega);replace HT:=sp0 (HT.call hb);clear hb;have Hp:=zG (hrp.fresh (by first|decide|(show 0<1;omega)) Hfresh.out hzo);clear hrp;clear Hfresh hzo;go_wp2_with fail;have GN:=newL_any _ B1 d1 ps 10 W1 HE.out (Hu.below HT.below) (by rw[h3];exact Hp.out);rw[h3] at GN;have HGN:=zG GN;clear GN;refine(HGN.out).mono ?_;rintro en W2 ⟨A2,c2,rfl,hb⟩;replace⟨HT,Hp⟩:=sp1 (HT.call hb) Hp.s;clear hb;clear HGN;clear Hp;go_upto_region 2 with fail;replace HT:=sp0 (HT.new' #[.slice A2 1 c2,.slice none 0 0] 29 W2.heap.size);generalize (W2.alloc (.cells #[.slice A2 1 c2,.slice none 0 0] 29))=W3 at*;have h_:=HT.rz 1;go_wp2_with fail;go_ret
 exact⟨rfl,HT.below⟩
end
end Go.Proofs.YtmgbhhabdapniaaGreatDoor
