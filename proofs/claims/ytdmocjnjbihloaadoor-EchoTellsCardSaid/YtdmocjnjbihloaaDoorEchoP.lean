/- What the program that sends on does with a box that is full; how children end. Reckoned, in plain Lean. No condition; no run. -/
import Derived.Test.YtdmocjnjbihloaaDoorRunC
import Derived.Test.YtdmocjnjbihloaaDoorActQ
namespace Go.Proofs.YtdmocjnjbihloaaDoor
open Go.RowKit
def echoL0:List Ins:=[⟨8,2,1,0⟩,⟨15,2,0,0⟩,⟨8,3,0,0⟩,⟨5,3,0,3⟩,⟨13,1,3,0⟩,⟨0,0,0,0⟩,⟨7,4,0,1⟩,⟨1,5,0,0⟩,⟨9,4,5,0⟩,⟨17,3,4,1⟩,⟨9,0,3,0⟩,⟨13,1,3,0⟩,⟨0,0,0,0⟩]
def echoL1:List Ins:=[⟨8,2,1,1⟩,⟨8,3,0,0⟩,⟨2,3,2,0⟩,⟨9,0,3,0⟩,⟨15,3,0,0⟩,⟨0,0,0,0⟩]
def echoP:List (List Ins):=[echoL0,echoL1]
def okR (l:List Ins) (n:Nat):Bool:=match qD l n (gB l.length) with
 |some r=>(badR l r).isNone
 |none=>false
theorem okR_bad {l:List Ins} {n:Nat} (h:okR l n=true):nt l=none:=by
 unfold okR at h;split at h
 ·rename_i r hr
  rw[badL_run (flowL_run hr)];simpa using h
 ·cases h
theorem ver_ok {ps:List (List Ins)} (h:bT ps=0) (n:Nat) (hb:ps.all (fun l=>okR l n)=true):jf ps=(0,0,0):=verP_ok h (fun l hl=>okR_bad (List.all_eq_true.1 hb l hl))
theorem echo_ver:jf echoP=(0,0,0):=ver_ok (by kernel_rfl) 20 (by kernel_rfl)
end Go.Proofs.YtdmocjnjbihloaaDoor
