/- THE STATEMENT 'TopClear', out of its walk. -/
import Derived.Test.YtdmocjnjbihloaaDoorTopClearW
set_option maxRecDepth 100000
namespace Go.Proofs.YtdmocjnjbihloaaDoor.lawTopClear
open Go.ChangeShapes Go.WideShapes Go.ChangeAt Go.RowKit
set_option linter.unusedVariables false
theorem proved:Rows.TopClearCardSaid:=by
 unfold Rows.TopClearCardSaid Rows.topClearCard;exact Claim7.holds_tied_plain_at .later [] [.data] true _ _ over (fun _ h=>by cases h) (by kernel_rfl) (fun _ h=>by cases h) topClear_row_tie rfl ⟨rfl,rfl⟩ (by kernel_rfl) rfl
  (fun f fn hf hfn=>by
   obtain rfl:f=4:=Option.some.inj ((show Tryd.prog.funcNamed "treadwheel/treadwheeltop.TopClear" =some 4 by kernel_rfl).symm.trans hf) |>.symm
   obtain rfl:fn=Tryd.f4:=(Option.some.inj (Tryd.func4.symm.trans hfn)).symm;exact⟨by kernel_rfl,fun j t ht=>by
    rw[Tryd.params4] at ht;have hm:t∈([22,22,3,3]:List TypeId):=(by simpa using Array.mem_of_getElem? ht);have hall:(([22,22,3,3]:List TypeId).all fun u=> !Tryd.prog.wantsStandIn u)=true:=(by kernel_rfl);exact(show Tryd.prog.wantsStandIn t=false by simpa using List.all_eq_true.1 hall t hm)⟩)
  (by kernel_rfl)
#print axioms proved
end Go.Proofs.YtdmocjnjbihloaaDoor.lawTopClear
