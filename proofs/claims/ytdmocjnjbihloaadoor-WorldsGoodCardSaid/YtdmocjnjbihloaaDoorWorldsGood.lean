/- THE STATEMENT 'WorldsGood', out of its walk. -/
import Derived.Test.YtdmocjnjbihloaaDoorWorldsGoodW
set_option maxRecDepth 100000
namespace Go.Proofs.YtdmocjnjbihloaaDoor.lawWorldsGood
open Go.ChangeShapes Go.WideShapes Go.ChangeAt Go.RowKit
set_option linter.unusedVariables false
theorem proved:Rows.WorldsGoodCardSaid:=by
 unfold Rows.WorldsGoodCardSaid Rows.worldsGoodCard;exact Claim7.holds_tied_plain_at .later [] [.data] true _ _ over (fun _ h=>by cases h) (by kernel_rfl) (fun _ h=>by cases h) worldsGood_row_tie rfl ⟨rfl,rfl⟩ (by kernel_rfl) rfl
  (fun f fn hf hfn=>by
   obtain rfl:f=9:=Option.some.inj ((show Tryd.prog.funcNamed "treadwheel/treadwheelkeep.WorldsGood" =some 9 by kernel_rfl).symm.trans hf) |>.symm
   obtain rfl:fn=Tryd.f9:=(Option.some.inj (Tryd.func9.symm.trans hfn)).symm;exact⟨by kernel_rfl,fun j t ht=>by
    rw[Tryd.params9] at ht;have hm:t∈([22,22,3]:List TypeId):=(by simpa using Array.mem_of_getElem? ht);have hall:(([22,22,3]:List TypeId).all fun u=> !Tryd.prog.wantsStandIn u)=true:=(by kernel_rfl);exact(show Tryd.prog.wantsStandIn t=false by simpa using List.all_eq_true.1 hall t hm)⟩)
  (by kernel_rfl)
#print axioms proved
end Go.Proofs.YtdmocjnjbihloaaDoor.lawWorldsGood
