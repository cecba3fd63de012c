/- THE STATEMENT 'ProgramsBad', out of its walk. -/
import Derived.Test.YtdmocjnjbihloaaDoorLProgramsBadW
set_option maxRecDepth 100000
namespace Go.Proofs.YtdmocjnjbihloaaDoor.lawProgramsBad
open Go.ChangeShapes Go.WideShapes Go.ChangeAt Go.RowKit
set_option linter.unusedVariables false
theorem proved:Rows.ProgramsBadCardSaid:=by
 unfold Rows.ProgramsBadCardSaid Rows.programsBadCard;exact Claim7.holds_tied_plain_at .later [] [.data] true _ _ over (fun _ h=>by cases h) (by kernel_rfl) (fun _ h=>by cases h) programsBad_row_tie rfl ⟨rfl,rfl⟩ (by kernel_rfl) rfl
  (fun f fn hf hfn=>by
   obtain rfl:f=5:=Option.some.inj ((show Tryd.prog.funcNamed "treadwheel/treadwheelkeep.ProgramsBad" =some 5 by kernel_rfl).symm.trans hf) |>.symm
   obtain rfl:fn=Tryd.f5:=(Option.some.inj (Tryd.func5.symm.trans hfn)).symm;exact⟨by kernel_rfl,fun j t ht=>by
    rw[Tryd.params5] at ht;have hm:t∈([3,3]:List TypeId):=(by simpa using Array.mem_of_getElem? ht);have hall:(([3,3]:List TypeId).all fun u=> !Tryd.prog.wantsStandIn u)=true:=(by kernel_rfl);exact(show Tryd.prog.wantsStandIn t=false by simpa using List.all_eq_true.1 hall t hm)⟩)
  (by kernel_rfl)
#print axioms proved
end Go.Proofs.YtdmocjnjbihloaaDoor.lawProgramsBad
