/- What bytes are read as, in plain Lean; what is read is written so again. No condition; no run. A program is read as it was written; cut short it is not; in plain Lean. No condition; no run. -/
import Derived.Test.YtdmocjnjbihloaaDoorSpecE
namespace Go.Proofs.YtdmocjnjbihloaaDoor
section
def AllB (l:List Int):Prop:=∀c∈l,0≤c∧c<256
theorem AllB.tail {c:Int} {l:List Int} (h:AllB (c::l)):AllB l:=fun x hx=>h x (List.mem_cons_of_mem _ hx)
end
section
def pre {α:Type} (is:List α):Except Int (List α×List Int)→Except Int (List α×List Int)
 | .error e=> .error e
 | .ok (js,l)=> .ok (is++js,l)
structure Reads {α:Type} (f:List Int→Except Int (α×List Int)) (B:List Int) (a:α):Prop where
 all:∀l,f (B++l)= .ok (a,l)
 cut:∀c,c<B.length→f (B.take c)= .error 5
def bindD {α β:Type} (g:List Int→Except Int (α×List Int)) (h:α→List Int→Except Int (β×List Int)) (l:List Int):Except Int (β×List Int):=
 match g l with
 | .error e=> .error e
 | .ok (b,l)=>h b l
def retD {α:Type} (a:α) (l:List Int):Except Int (α×List Int):= .ok (a,l)
def byteD:List Int→Except Int (Int×List Int)
 | []=> .error 5
 |c::l=> .ok (c,l)
theorem Reads.ret {α:Type} (a:α):Reads (retD a) [] a:=⟨fun _=>rfl,fun c h=>absurd h (Nat.not_lt_zero c)⟩
theorem Reads.byte (c:Int):Reads byteD [c] c:=⟨fun _=>rfl,fun k h=>by
 obtain rfl:k=0:=(by simpa using h);rfl⟩
theorem Reads.bind {α β:Type} {g:List Int→Except Int (α×List Int)} {h:α→List Int→Except Int (β×List Int)} {B C:List Int} {a:α} {b:β} (h1:Reads g B a) (h2:Reads (h a) C b):Reads (bindD g h) (B++C) b:=by
 refine⟨fun l=>?_,fun c hc=>?_⟩
 ·unfold bindD;rw[List.append_assoc,h1.all];exact h2.all l
 ·unfold bindD;by_cases hcb:c<B.length
  ·rw[List.take_append_of_le_length (by omega),h1.cut c hcb]
  ·have e:(B++C).take c=B++C.take (c - B.length):=(by rw[List.take_append,List.take_of_length_le (by omega)]);rw[e,h1.all];exact h2.cut _ (by simp at hc;omega)
theorem Reads.of {α:Type} {f g:List Int→Except Int (α×List Int)} {B:List Int} {a:α} (h:Reads g B a) (e:∀l,f l=g l):Reads f B a:=
 ⟨fun l=>(e _).trans (h.all l),fun c hc=>(e _).trans (h.cut c hc)⟩
end
end Go.Proofs.YtdmocjnjbihloaaDoor
