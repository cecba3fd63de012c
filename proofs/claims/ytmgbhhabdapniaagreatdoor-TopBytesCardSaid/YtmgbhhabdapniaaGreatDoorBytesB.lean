/- Slices of bytes: as arguments, as the call's own, as strings. No condition. -/
import Derived.Test.YtmgbhhabdapniaaGreatDoorArgs
import Derived.Test.YtmgbhhabdapniaaGreatDoorConcatV
import Derived.Test.YtmgbhhabdapniaaGreatDoorDecL
import Derived.Laws.BytesArg
set_option maxRecDepth 100000
namespace Go.Proofs.YtmgbhhabdapniaaGreatDoor
open Go.ChangeShapes Go.WideShapes Go.ChangeAt Go.RowKit Go.Deep
section
variable {H:Type} {enc:TypeId×Value→H} {W:World} {base b0:Nat} {spare:Nat→Bool} {held:Bool} {v:Value} {d:DataW H} {p:List MemPlace}
end
def bcs (l:List UInt8):List Value:=l.map (fun x=> .int .u8 x.toNat)
theorem own_bs {w:World} {base:Nat} {A:Option Addr} {c:Nat} {l:List UInt8} (h:w.ownsRow base 5 1 (.slice A l.length c) l.length (bcs l)) (hs:l.length*1≤140737488355328):aj bE w (fun b=>base≤b) (.slice A l.length c) l:=by
 have ho:dQ bE w (fun _=>False) base 5 (.slice A l.length c) l:=⟨l.map (fun i=>[.int .u8 i.toNat]),⟨by simp,fun i x cs hx hc=>by
  rw[List.getElem?_map,hx] at hc;simp at hc
  subst hc;exact⟨rfl,rfl⟩⟩,by
  have e:(l.map (fun i=>[Value.int .u8 (i.toNat:Int)])).flatten=bcs l:=by
   clear h hs;unfold bcs;induction l with
   |nil=>rfl
   |cons a l ih=>simp at ih ⊢;exact ih
  rw[e];exact h,hs⟩
 exact ho.rd.keep (by decide) (fun b _ hb=>⟨hb.elim (fun h=>h.elim) id,rfl⟩)
end Go.Proofs.YtmgbhhabdapniaaGreatDoor
