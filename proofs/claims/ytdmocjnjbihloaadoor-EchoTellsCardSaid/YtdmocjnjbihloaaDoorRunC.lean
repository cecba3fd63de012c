/- The plain functions of acts, so that they can be reckoned: what values lead to is found with a bound. No condition; no run. -/
import Derived.Test.YtdmocjnjbihloaaDoorMayS
namespace Go.Proofs.YtdmocjnjbihloaaDoor
open Go.RowKit
def ledC (os:List Ob):Nat→List V→List Int→List Int
 |0,_,out=>out
 |_+1,[],out=>out
 |f+1,v::q,out=>if fresh out v then ledC os f (q++fieldsOf os v.n) (out++[v.n]) else ledC os f q out
theorem ledC_is {os:List Ob} (hs:∀o∈os,o.fields.length≤4) {q:List V} {out r:List Int} (h:Led os q out r):∀f,q.length+4*(r.length - out.length)<f→ledC os f q out=r:=by
 induction h with
 |done out=>intro f hf;cases f<;>rfl
 | @new v q out r hf h ih=>
  intro f hlt
  cases f with
  |zero=>omega
  |succ f=>
   unfold ledC;rw[if_pos hf];refine ih f ?_;have h4:(fieldsOf os v.n).length≤4:=by
    unfold fieldsOf;split
    ·rename_i o ho;exact hs o (zF ho)
    ·simp
   obtain⟨nw,e⟩:=h.pre;have hl:out.length+1≤r.length:=(by rw[e];simp);simp only[List.length_append,List.length_cons,List.length_nil] at hlt ⊢;omega
 | @old v q out r hf h ih=>
  intro f hlt
  cases f with
  |zero=>omega
  |succ f=>
   unfold ledC;rw[if_neg (by simp[hf])];refine ih f ?_;simp only[List.length_cons] at hlt;omega
def iT (os:List Ob) (rs:List V):List Int:=ledC os (rs.length+241) rs []
theorem lL {h:Hp} {rs:List V} (hp:hpB h rs=true):ay h.ah rs=iT h.ah rs:=by
 obtain⟨l,hl,ht⟩:=kX.led hp;have a:=(aR.1 hp).1;have h60:=a.few;have hlen:=ht.len;rw[dM hl];exact(ledC_is (fun o ho=>(iX.1 (a.ah o ho)).1) hl _ (by simp only[List.length_nil];omega)).symm
end Go.Proofs.YtdmocjnjbihloaaDoor
