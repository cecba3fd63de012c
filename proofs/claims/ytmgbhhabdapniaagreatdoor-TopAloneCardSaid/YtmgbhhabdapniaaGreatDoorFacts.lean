/- Closed facts on this translation, one by one: what every row of it asks. No condition. -/
import Derived.Test.YtmgbhhabdapniaaGreatDoorArgs
set_option maxRecDepth 100000
namespace Go.Proofs.YtmgbhhabdapniaaGreatDoor
open Go.RowKit
def codesA:List Char:=[104,97,114,110,101,115,115].map Char.ofNat
def codesB:List Char:=[101,48,51,57,53,100,51,54,55,48,55,99,48,99,55,102,99,97,51,57,97,51,102,51,51,101,102,49,51,52,50,98,102,101,57,98,55,99,101,102,51,49,57,99,53,55,56,54,99,101,101,101,100,54,99,49,101,99,100,99,48,52,54,51].map Char.ofNat
def jS:List Char:=[99,117,116].map Char.ofNat
def codesD:List Char:=[97,116,32,116,114,101,97,100,119,104,101,101,108,47,116,114,101,97,100,119,104,101,101,108,108,97,119,46,65,99,116,111,114,82,117,110,115,32,116,114,101,97,100,119,104,101,101,108,47,116,114,101,97,100,119,104,101,101,108,108,97,119,46,65,99,116,111,114,68,111,101,115,32,116,114,101,97,100,119,104,101,101,108,47,116,114,101,97,100,119,104,101,101,108,116,111,112,46,84,111,112,65,108,111,110,101,32,116,114,101,97,100,119,104,101,101,108,47,116,114,101,97,100,119,104,101,101,108,116,111,112,46,84,111,112,83,116,101,112,115,32,116,114,101,97,100,119,104,101,101,108,47,116,114,101,97,100,119,104,101,101,108,116,111,112,46,84,111,112,69,110,100,101,100,32,116,114,101,97,100,119,104,101,101,108,47,116,114,101,97,100,119,104,101,101,108,116,111,112,46,84,111,112,83,119,97,112,32,116,114,101,97,100,119,104,101,101,108,47,116,114,101,97,100,119,104,101,101,108,116,111,112,46,84,111,112,66,121,116,101,115].map Char.ofNat
theorem make_of {P:Program} {ws:List (List Char)} (h:behindMainWord (wordsSigns P.initOrder.toList)=jS::ws):P.make=some .cut:=by
 unfold Program.make;rw[h];have h1:(jS== "gc".toList||jS== "spec".toList)=false:=(by kernel_rfl);have h2:(jS== "cut".toList)=true:=(by kernel_rfl);simp only[h1,h2,Bool.true_or,Bool.false_eq_true,if_true,if_false]
theorem lifts_of (ws:List (List Char)):stripLifts liftWords (jS::ws)=([],jS::ws):=by kernel_rfl
theorem final_of {P:Program} {ws:List (List Char)} (h:behindMainWord (wordsSigns P.initOrder.toList)=jS::ws):P.liftsFinal=false:=by
 unfold Program.liftsFinal Program.headLifts;rw[h,lifts_of];kernel_rfl
theorem may_of {P:Program} {ws:List (List Char)} (h:behindMainWord (wordsSigns P.initOrder.toList)=jS::ws) (h1:P.laysLater=false) (h2:P.bearsReflect=false) (h3:P.doorFits []=true):P.mayEnter=true:=by
 unfold Program.mayEnter;rw[h];dsimp only;rw[lifts_of];have g1:(jS== "gc".toList||jS== "spec".toList)=false:=(by kernel_rfl);have g2:(jS== "carried".toList)=false:=(by kernel_rfl);have g3:((jS::ws).head? ==some "cut".toList)=true:=(by kernel_rfl);simp only[g1,g2,g3,h1,h2,h3];rfl
theorem order_is:Tryz.prog.initOrder=String.ofList (codesA++Char.ofNat 32::(codesB++Char.ofNat 32::(jS++Char.ofNat 32::codesD))):=by kernel_rfl
theorem words_word:∀(a b:List Char),(a.all fun c=>c !=Char.ofNat 32)=true→wordsSigns (a++Char.ofNat 32::b)=a::wordsSigns b
 | [],b,_=>rfl
 |c::a,b,h=>by
  simp only[List.all_cons,Bool.and_eq_true] at h;have ih:=words_word a b h.2;have hc:c≠Char.ofNat 32:=(by simpa using h.1);rw[List.cons_append];conv=>lhs;unfold wordsSigns
  split
  ·rename_i he;cases he
  ·rename_i r he
   injection he with h1 _
   exact absurd h1 hc
  ·rename_i d r hne he
   injection he with h1 h2
   subst h1 h2;rw[ih]
theorem pG:behindMainWord (wordsSigns Tryz.prog.initOrder.toList)=jS::wordsSigns codesD:=by
 rw[order_is,String.toList_ofList,words_word _ _ (by kernel_rfl),words_word _ _ (by kernel_rfl),words_word _ _ (by kernel_rfl)];unfold behindMainWord;exact if_pos (by kernel_rfl)
theorem fact_may:Tryz.prog.mayEnter=true:=may_of pG (by kernel_rfl) (by kernel_rfl) (by kernel_rfl)
theorem fact_lifts:Tryz.prog.liftsFinal=false:=final_of pG
theorem fact_make:(Tryz.prog.make==some .cut)=true:=by rw[make_of pG];rfl
theorem fact_rowed:mapsRowed Tryz.prog=true:=by kernel_rfl
theorem fact_stops:(Tryz.prog.stops==[])=true:=by kernel_rfl
theorem fact_knobs:(Tryz.prog.stopKnobs==[])=true:=by kernel_rfl
theorem fact_heard:Tryz.prog.stopsHeard=true:=by kernel_rfl
end Go.Proofs.YtmgbhhabdapniaaGreatDoor
