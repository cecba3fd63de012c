/- What a register or a message leads to is one owner's alone, and there. In plain Lean. No condition; no run. -/
import Derived.Test.YtdmocjnjbihloaaDoorSound
namespace Go.Proofs.YtdmocjnjbihloaaDoor
open Go.RowKit
section
variable {ps:List (List Ins)} {n:Int} {o:Int→Nat} {k:List Int} {a:Ac}
theorem iW.one (h:iW a.heap.ah o) (hok:bu ps n a) {v:V} {g:Nat} (hg:g≠0) (hv:fU a.heap.ah.length v=true) (ho:v.k=2→o v.n=g):hpB a.heap [v]=true∧∃l,ay a.heap.ah [v]=l∧Told a.heap.ah.length l∧∀x∈l,o x=g∧aV a.heap.ah x=false:=by
 have hp:hpB a.heap [v]=true:=aR.2 ⟨hok.hp,fun u hu=>by simp at hu;subst hu;exact hv⟩;obtain⟨l,e,hl,ht⟩:=led_of hp;have hx:=h.led hl hg (fun u hu hk=>by simp at hu;subst hu;exact ho hk) (fun _ h=>by cases h);exact⟨hp,l,e,ht,fun x hxl=>⟨hx x hxl,h.live x (by rw[hx x hxl];exact hg)⟩⟩
theorem bf.reg_one (h:bf k a o) (hok:bu ps n a) {r:Nat} (hr:r<8) (hg:grp k r≠0):(a.reg (r:Int)).k=2∧hpB a.heap [a.reg (r:Int)]=true∧∃l,ay a.heap.ah [a.reg (r:Int)]=l∧Told a.heap.ah.length l∧∀x∈l,o x=grp k r∧aV a.heap.ah x=false:=by
 obtain⟨g1,g2⟩:=h.obj r hr hg;exact⟨g1,h.heap.one hok hg (hok.reg _) (fun _=>g2)⟩
theorem bf.box_one (h:bf k a o) (hok:bu ps n a) {i:Nat} {v:V} (hi:a.box[i]?=some v):hpB a.heap [v]=true∧∃l,ay a.heap.ah [v]=l∧Told a.heap.ah.length l∧∀x∈l,o x=20+i∧aV a.heap.ah x=false:=by
 obtain⟨g1,g2⟩:=h.box i v hi;exact h.heap.one hok (by omega) (hok.vals v (List.mem_append_right _ (zF hi))) (fun _=>g2)
end
end Go.Proofs.YtdmocjnjbihloaaDoor
