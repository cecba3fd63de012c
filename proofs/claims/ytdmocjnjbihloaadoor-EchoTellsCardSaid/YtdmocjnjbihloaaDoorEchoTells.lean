/- THE STATEMENT 'EchoTells', out of its walk. -/
import Derived.Test.YtdmocjnjbihloaaDoorEchoTellsW
set_option maxRecDepth 100000
namespace Go.Proofs.YtdmocjnjbihloaaDoor.lawEchoTells
open Go.ChangeShapes Go.WideShapes Go.ChangeAt Go.RowKit
set_option linter.unusedVariables false
theorem proved:Rows.EchoTellsCardSaid:=by
 unfold Rows.EchoTellsCardSaid Rows.echoTellsCard;exact Claim7.holds_tied_plain_at .later [] [.data] true _ _ over (fun _ h=>by cases h) (by kernel_rfl) (fun _ h=>by cases h) echoTells_row_tie rfl ⟨rfl,rfl⟩ (by kernel_rfl) rfl
  (fun f fn hf hfn=>by
   obtain rfl:f=7:=Option.some.inj ((show Tryd.prog.funcNamed "treadwheel/treadwheelkeep.EchoTells" =some 7 by kernel_rfl).symm.trans hf) |>.symm
   obtain rfl:fn=Tryd.f7:=(Option.some.inj (Tryd.func7.symm.trans hfn)).symm;exact⟨by kernel_rfl,fun j t ht=>by
    rw[Tryd.params7] at ht;have hm:t∈([40]:List TypeId):=(by simpa using Array.mem_of_getElem? ht);have hall:(([40]:List TypeId).all fun u=> !Tryd.prog.wantsStandIn u)=true:=(by kernel_rfl);exact(show Tryd.prog.wantsStandIn t=false by simpa using List.all_eq_true.1 hall t hm)⟩)
  (by kernel_rfl)
#print axioms proved
end Go.Proofs.YtdmocjnjbihloaaDoor.lawEchoTells
