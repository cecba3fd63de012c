/- Closed facts on this translation, one by one: what every row of it asks. No condition. -/
import Derived.Test.YtdmocjnjbihloaaDoorArgs
set_option maxRecDepth 100000
namespace Go.Proofs.YtdmocjnjbihloaaDoor
open Go.RowKit
def codesA:List Char:=[104,97,114,110,101,115,115].map Char.ofNat
def codesB:List Char:=[54,97,102,53,101,98,53,55,54,102,49,99,102,48,102,55,50,48,98,57,56,50,102,54,48,97,49,100,98,56,97,56,49,50,54,98,52,100,57,52,102,53,98,98,51,55,56,57,51,51,48,102,53,54,54,99,98,54,51,102,56,50,101,99].map Char.ofNat
def jS:List Char:=[99,117,116].map Char.ofNat
def codesD:List Char:=[97,116,32,116,114,101,97,100,119,104,101,101,108,47,116,114,101,97,100,119,104,101,101,108,116,111,112,46,84,111,112,85,110,105,113,117,101,32,116,114,101,97,100,119,104,101,101,108,47,116,114,101,97,100,119,104,101,101,108,116,111,112,46,84,111,112,67,108,101,97,114,32,116,114,101,97,100,119,104,101,101,108,47,116,114,101,97,100,119,104,101,101,108,107,101,101,112,46,80,114,111,103,114,97,109,115,66,97,100,32,116,114,101,97,100,119,104,101,101,108,47,116,114,101,97,100,119,104,101,101,108,107,101,101,112,46,80,97,114,101,110,116,115,84,111,108,100,32,116,114,101,97,100,119,104,101,101,108,47,116,114,101,97,100,119,104,101,101,108,107,101,101,112,46,69,99,104,111,84,101,108,108,115,32,116,114,101,97,100,119,104,101,101,108,47,116,114,101,97,100,119,104,101,101,108,107,101,101,112,46,66,111,120,101,115,70,117,108,108,32,116,114,101,97,100,119,104,101,101,108,47,116,114,101,97,100,119,104,101,101,108,107,101,101,112,46,87,111,114,108,100,115,71,111,111,100,32,116,114,101,97,100,119,104,101,101,108,47,116,114,101,97,100,119,104,101,101,108,116,111,112,46,84,111,112,84,119,105,99,101,32,116,114,101,97,100,119,104,101,101,108,47,116,114,101,97,100,119,104,101,101,108,116,111,112,46,84,111,112,83,111,117,110,100].map Char.ofNat
theorem make_of {P:Program} {ws:List (List Char)} (h:behindMainWord (wordsSigns P.initOrder.toList)=jS::ws):P.make=some .cut:=by
 unfold Program.make;rw[h];have h1:(jS== "gc".toList||jS== "spec".toList)=false:=(by kernel_rfl);have h2:(jS== "cut".toList)=true:=(by kernel_rfl);simp only[h1,h2,Bool.true_or,Bool.false_eq_true,if_true,if_false]
theorem lifts_of (ws:List (List Char)):stripLifts liftWords (jS::ws)=([],jS::ws):=by kernel_rfl
theorem final_of {P:Program} {ws:List (List Char)} (h:behindMainWord (wordsSigns P.initOrder.toList)=jS::ws):P.liftsFinal=false:=by
 unfold Program.liftsFinal Program.headLifts;rw[h,lifts_of];kernel_rfl
theorem may_of {P:Program} {ws:List (List Char)} (h:behindMainWord (wordsSigns P.initOrder.toList)=jS::ws) (h1:P.laysLater=false) (h2:P.bearsReflect=false) (h3:P.doorFits []=true):P.mayEnter=true:=by
 unfold Program.mayEnter;rw[h];dsimp only;rw[lifts_of];have g1:(jS== "gc".toList||jS== "spec".toList)=false:=(by kernel_rfl);have g2:(jS== "carried".toList)=false:=(by kernel_rfl);have g3:((jS::ws).head? ==some "cut".toList)=true:=(by kernel_rfl);simp only[g1,g2,g3,h1,h2,h3];rfl
theorem order_is:Tryd.prog.initOrder=String.ofList (codesA++Char.ofNat 32::(codesB++Char.ofNat 32::(jS++Char.ofNat 32::codesD))):=by kernel_rfl
theorem words_word:∀(a b:List Char),(a.all fun c=>c !=Char.ofNat 32)=true→wordsSigns (a++Char.ofNat 32::b)=a::wordsSigns b
 | [],b,_=>rfl
 |c::a,b,h=>by
  simp only[List.all_cons,Bool.and_eq_true] at h;have ih:=words_word a b h.2;have hc:c≠Char.ofNat 32:=(by simpa using h.1);rw[List.cons_append];conv=>lhs;unfold wordsSigns
  split
  ·rename_i he;cases he
  ·rename_i r he
   injection he with h1 _
   exact absurd h1 hc
  ·rename_i d r hne he
   injection he with h1 h2
   subst h1 h2;rw[ih]
theorem pG:behindMainWord (wordsSigns Tryd.prog.initOrder.toList)=jS::wordsSigns codesD:=by
 rw[order_is,String.toList_ofList,words_word _ _ (by kernel_rfl),words_word _ _ (by kernel_rfl),words_word _ _ (by kernel_rfl)];unfold behindMainWord;exact if_pos (by kernel_rfl)
theorem fact_may:Tryd.prog.mayEnter=true:=may_of pG (by kernel_rfl) (by kernel_rfl) (by kernel_rfl)
theorem fact_final:([]==Tryd.prog.headLifts)=true:=by
 unfold Program.headLifts;rw[pG,lifts_of];kernel_rfl
theorem fact_lifts:Tryd.prog.liftsFinal=false:=final_of pG
theorem fact_make:(Tryd.prog.make==some .cut)=true:=by rw[make_of pG];rfl
theorem fact_rowed:mapsRowed Tryd.prog=true:=by kernel_rfl
theorem fact_stops:(Tryd.prog.stops==[])=true:=by kernel_rfl
theorem fact_knobs:(Tryd.prog.stopKnobs==[])=true:=by kernel_rfl
theorem fact_heard:Tryd.prog.stopsHeard=true:=by kernel_rfl
theorem fact_keys:(true==Tryd.prog.plainKeys)=true:=by kernel_rfl
end Go.Proofs.YtdmocjnjbihloaaDoor
