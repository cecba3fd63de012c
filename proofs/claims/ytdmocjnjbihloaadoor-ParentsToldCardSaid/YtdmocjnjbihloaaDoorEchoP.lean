/- What the program that sends on does with a box that is full; how children end. Reckoned, in plain Lean. No condition; no run. -/
import Derived.Test.YtdmocjnjbihloaaDoorRunC
import Derived.Test.YtdmocjnjbihloaaDoorActQ
namespace Go.Proofs.YtdmocjnjbihloaaDoor
open Go.RowKit
def echoL0:List Ins:=[⟨8,2,1,0⟩,⟨15,2,0,0⟩,⟨8,3,0,0⟩,⟨5,3,0,3⟩,⟨13,1,3,0⟩,⟨0,0,0,0⟩,⟨7,4,0,1⟩,⟨1,5,0,0⟩,⟨9,4,5,0⟩,⟨17,3,4,1⟩,⟨9,0,3,0⟩,⟨13,1,3,0⟩,⟨0,0,0,0⟩]
def echoL1:List Ins:=[⟨8,2,1,1⟩,⟨8,3,0,0⟩,⟨2,3,2,0⟩,⟨9,0,3,0⟩,⟨15,3,0,0⟩,⟨0,0,0,0⟩]
def echoP:List (List Ins):=[echoL0,echoL1]
def okR (l:List Ins) (n:Nat):Bool:=match qD l n (gB l.length) with
 |some r=>(badR l r).isNone
 |none=>false
theorem okR_bad {l:List Ins} {n:Nat} (h:okR l n=true):nt l=none:=by
 unfold okR at h;split at h
 ·rename_i r hr
  rw[badL_run (flowL_run hr)];simpa using h
 ·cases h
theorem ver_ok {ps:List (List Ins)} (h:bT ps=0) (n:Nat) (hb:ps.all (fun l=>okR l n)=true):jf ps=(0,0,0):=verP_ok h (fun l hl=>okR_bad (List.all_eq_true.1 hb l hl))
theorem echo_ver:jf echoP=(0,0,0):=ver_ok (by kernel_rfl) 20 (by kernel_rfl)
def boxActs (k:Nat):List ig:=(List.range k).map (fun (i:Nat)=>(⟨3,0,i,0⟩:ig))++List.replicate 84 ⟨1,0,0,0⟩
def boxB (W:Wd) (k:Nat):Bool:=W.prints.map (fun t=>(t.cK,t.n))==(List.range (min k 6)).map (fun (i:Nat)=>((0:Int),(i:Int)))
theorem box_all:(List.range 12).all (fun k=>boxB ((boxActs k).foldl (actWC echoP) (fZ 40)) k)=true:=by kernel_rfl
theorem pairs_eq {l:List Td} {ks:List Nat} (h:l.map (fun t=>(t.cK,t.n))=ks.map (fun (i:Nat)=>((0:Int),(i:Int)))):l=ks.map (fun (i:Nat)=>(⟨0,(i:Int)⟩:Td)):=by
 induction l generalizing ks with
 |nil=>cases ks with
  |nil=>rfl
  |cons k ks=>cases h
 |cons t l ih=>cases ks with
  |nil=>cases h
  |cons k ks=>
   simp only[List.map_cons,List.cons.injEq,Prod.mk.injEq] at h ⊢;refine⟨?_,ih h.2⟩;obtain⟨x,y⟩:=t;simp only at h;rw[h.1.1,h.1.2]
theorem box_run (k:Nat) (h:k<12):((boxActs k).foldl (iY echoP) (fZ 40)).prints=(List.range (min k 6)).map (fun (i:Nat)=>(⟨0,(i:Int)⟩:Td)):=by
 have h1:=List.all_eq_true.1 box_all k (by simp;exact h);rw[←actWC_eq] at h1;unfold boxB at h1;exact pairs_eq (by simpa using h1)
def parFirst:List Ins:=[⟨8,2,1,1⟩,⟨5,2,0,4⟩,⟨8,3,1,0⟩,⟨15,3,0,0⟩,⟨15,2,0,0⟩,⟨7,4,0,1⟩,⟨17,5,4,1⟩,⟨13,1,5,0⟩,⟨0,0,0,0⟩]
def parEnd:Nat→List Ins
 |0=>[⟨19,0,0,0⟩]
 |1=>[⟨8,2,1,2⟩,⟨0,0,0,0⟩]
 |2=>[⟨10,2,1,0⟩,⟨0,0,0,0⟩]
 |3=>[⟨1,2,0,1099511627776⟩,⟨2,2,2,0⟩,⟨0,0,0,0⟩]
 |4=>[⟨7,2,0,1⟩,⟨11,2,0,0⟩,⟨12,0,2,0⟩,⟨6,0,0,-3⟩]
 |_=>[⟨7,2,0,1⟩,⟨8,3,2,0⟩,⟨0,0,0,0⟩]
def parHow:Nat→Int
 |0=>1
 |1=>4
 |2=>3
 |3=>7
 |4=>5
 |_=>2
def parP (i:Nat):List (List Ins):=[parFirst,parEnd i]
def parActs:List ig:=⟨3,0,0,0⟩::(List.replicate 12 ⟨1,0,0,0⟩++List.replicate 40 ⟨1,1,0,0⟩++List.replicate 6 ⟨1,0,0,0⟩)
def parB (W:Wd) (h:Int):Bool:=decide (2≤W.aa.length)&&(match W.prints with
 |t::u::_=>t.cK==0&&t.n==1&&u.cK==0&&u.n==h
 |_=>false)&&(W.at_ 1).fin==h&&(W.at_ 1).heap.ah.isEmpty
theorem par_all:(List.range 6).all (fun i=>parB (parActs.foldl (actWC (parP i)) (fZ 10)) (parHow i))=true:=by kernel_rfl
theorem par_ver (i:Nat) (h:i<6):jf (parP i)=(0,0,0):=by
 have hc:i=0∨i=1∨i=2∨i=3∨i=4∨i=5:=(by omega);rcases hc with rfl|rfl|rfl|rfl|rfl|rfl<;>exact ver_ok (by kernel_rfl) 20 (by kernel_rfl)
theorem par_run (i:Nat) (h:i<6):parB (parActs.foldl (iY (parP i)) (fZ 10)) (parHow i)=true:=by
 rw[actWC_eq];exact List.all_eq_true.1 par_all i (by simp;exact h)
end Go.Proofs.YtdmocjnjbihloaaDoor
