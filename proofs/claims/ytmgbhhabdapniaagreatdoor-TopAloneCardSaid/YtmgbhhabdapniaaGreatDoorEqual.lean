/- The walks of slices.Equal and slices.EqualFunc, of lists that are the same. No condition beside what is read. -/
import Derived.Test.YtmgbhhabdapniaaGreatDoorActCopy
namespace Go.Proofs.YtmgbhhabdapniaaGreatDoor
open Go.RowKit
set_option maxHeartbeats 2000000 in
theorem equalI_eq (S T:Nat→Prop) (A B:Option Addr) (c d:Nat) (l:List Int) (w:World) (ha:aj iE w S (.slice A l.length c) l) (hb:aj iE w T (.slice B l.length d) l):
  Calls Tryz.prog 20 #[.slice A l.length c,.slice B l.length d] w fun e w'=>e= .returned (.bool true)∧∃n,w'=w.drewN n:=by
 obtain⟨-,h1,h2,h3⟩:=ha.fw;have Ha:=zG ha;have Hb:=zG hb;clear ha hb;go_enter Tryz.func20,Tryz.ntmps20
 go_wp2
 go_loopw [13] (fun i wr=>∃k:Nat,k≤l.length∧i= .int .i64 k∧∃q,wr=w.drewN q) (fun i _=>l.length - (intOf i).toNat)
 case atStart=>exact⟨0,by omega,rfl,0,rfl⟩
 case round=>
  obtain⟨k,hk,rfl,q,rfl⟩:=hrel;by_cases hlt:k<l.length
  ·obtain⟨x,hx⟩:∃x,l[k]?=some x:=⟨l[k],zD hlt⟩;obtain⟨b,o,rfl,_,_,g0⟩:=Ha.at_i hx;obtain⟨b',o',rfl,_,_,k0⟩:=Hb.at_i hx;have i1:(0:Int)≤(k:Int):=(by omega);have i2:(k:Int)<(l.length:Int):=(by omega);clear hx;go_wp2
   go_quiet (fail)
   go_wp2
   go_roundw
   case rel=>exact⟨k+1,by omega,by go_num,_,rfl⟩
   case measure=>simp[intOf];omega
  ·go_wp2
   go_ret
   exact⟨rfl,q,rfl⟩
end Go.Proofs.YtmgbhhabdapniaaGreatDoor
