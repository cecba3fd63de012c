/- The walk of treadwheelref.laterOf. Condition: registers and the operator are in their bounds. The walks of the document's mayBeDone, waysOn, sameKnown. Condition: registers, the operator and places are in their bounds. What the document's flow holds in memory. No condition; no run. <<iffile f slices.Clone[[]int,int]>> The walk of slices.Clone at int: a new row that holds the same list. No condition beside what is read. The walk of verify.Types. Condition: the table of operators is as the program's text lays it. -/
import Derived.Test.YtmgbhhabdapniaaGreatDoorFlowM
import Derived.Test.YtmgbhhabdapniaaGreatDoorSortI
import Derived.Test.YtmgbhhabdapniaaGreatDoorConcatV
import Derived.Test.YtmgbhhabdapniaaGreatDoorHeapB
import Derived.Test.YtmgbhhabdapniaaGreatDoorVerCheck
namespace Go.Proofs.YtmgbhhabdapniaaGreatDoor
section
section
open Go.RowKit
theorem rdI_cells {w:World} {S:Nat→Prop} {A:Option Addr} {n c:Nat} {xs:List Int} (h:aj iE w S (.slice A n c) xs):∀ad,A=some ad→∀(j:Nat) (u:Value),(xs.map (.int .i64))[j]?=some u→w.cell? (ad.add j)=some u:=fun ad hA j u hu=>by
 subst hA;simp only[List.getElem?_map,Option.map_eq_some_iff] at hu;obtain⟨x,hx,rfl⟩:=hu;obtain⟨b,o,hA,_,_,hc⟩:=h.at_i hx
 cases hA
 rw[addr_add];exact hc
end
section
open Go.RowKit
end
end
section
open Go.RowKit
section
variable {B:Nat} {w0 w w':World} {R R':List Res}
end
end
section
open Go.RowKit
end
section
open Go.RowKit
end
end Go.Proofs.YtmgbhhabdapniaaGreatDoor
