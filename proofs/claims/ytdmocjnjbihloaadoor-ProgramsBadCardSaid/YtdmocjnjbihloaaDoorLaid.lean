/- The listed variable: what the row's condition gives the walks, and that the door's own run meets it. No condition beside the row's own. -/
import Derived.Test.YtdmocjnjbihloaaDoorArgs
import Derived.Test.YtdmocjnjbihloaaDoorCodeC
import Derived.ProofKit
import Derived.LaidMore
import Derived.Stop.Joined
import Derived.Lib.LaidTab
set_option maxRecDepth 100000
namespace Go.Proofs.YtdmocjnjbihloaaDoor
open Go.ChangeShapes Go.WideShapes Go.ChangeAt Go.RowKit
def laidU:List (String×DataW Unit):=[("treadwheel/code.uses",Rows.laid_treadwheel_code_uses)]
theorem gUses:Tryd.prog.globalNamed "treadwheel/code.uses" =some 0:=by kernel_rfl
theorem tUses:(Tryd.prog.globals[0]?).map (·.type)=some 107:=by kernel_rfl
theorem door_met (os:Os) (args:Array Value):laidMetH Tryd.prog laidU ((World.doorLaid Tryd.prog 400 os).forCall (fun _ _=>0) ⟨#[],args,[]⟩).memory:=
 laidMetH_of_parts3 (fuel:=8) (laidMet_of_run' 8 (by kernel_rfl) (by kernel_rfl)) (by kernel_rfl) (by kernel_rfl)
theorem uses_of {W:World} (h:laidMetH Tryd.prog laidU W):dV W:=by
 rw[MakeChecks.laidMetH_plain _ _ _ (by kernel_rfl)] at h;have hT:=Lib.tabIs_of_head (k:= .i64) (zs:=usesT) (rest:=[]) gUses tUses Tryd.underlying107 Tryd.underlying3 (by kernel_rfl) (by kernel_rfl) (show laidMet Tryd.prog [("treadwheel/code.uses",Lib.tabData .i64 usesT)] W from h);intro i u hu;obtain⟨hi,he⟩:=zE.1 hu;have:=hT.cell gUses i hi;rw[List.getD_eq_getElem?_getD,hu] at this;exact this
end Go.Proofs.YtdmocjnjbihloaaDoor
