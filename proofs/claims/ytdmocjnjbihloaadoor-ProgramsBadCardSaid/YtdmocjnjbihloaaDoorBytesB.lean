/- Slices of bytes: as arguments, as the call's own, as strings. No condition. -/
import Derived.Test.YtdmocjnjbihloaaDoorArgs
import Derived.Test.YtdmocjnjbihloaaDoorConcatV
import Derived.Test.YtdmocjnjbihloaaDoorDecL
import Derived.Laws.BytesArg
set_option maxRecDepth 100000
namespace Go.Proofs.YtdmocjnjbihloaaDoor
open Go.ChangeShapes Go.WideShapes Go.ChangeAt Go.RowKit Go.Deep
theorem opens_b:Opens bE Tryd.prog 5:=by
 intro H enc w base spare held n cs d pl h _;obtain⟨k,rfl,_,hw⟩:=DataW.trod_int Tryd.underlying5 h;have hk:0≤k∧k<256:=by
  simp[Lit.wf,IntKind.min,IntKind.max,IntKind.signed,IntKind.bits] at hw
  omega
 refine⟨UInt8.ofNat k.toNat,rfl,?_⟩;show [Value.int .u8 k]= [Value.int .u8 ((UInt8.ofNat k.toNat).toNat:Int)]
 have:(UInt8.ofNat k.toNat).toNat=k.toNat:=by
  rw[UInt8.toNat_ofNat'];exact Nat.mod_eq_of_lt (by omega)
 rw[this];congr 2
 omega
theorem opens_bs:Opens (slE bE (by decide)) Tryd.prog 62:=opens_sl opens_b Tryd.underlying62 (by kernel_rfl) (by kernel_rfl) _
section
variable {H:Type} {enc:TypeId×Value→H} {W:World} {base b0:Nat} {spare:Nat→Bool} {held:Bool} {v:Value} {d:DataW H} {p:List MemPlace}
theorem arg_bs (h:DataW.Trod enc Tryd.prog W base spare held 62 v d p) (hv:Value.okWide Tryd.prog W .any b0 62 v) (hw:∀x∈d.weights Tryd.prog 62,x≤reachBytes):
  ∃xs A c,v= .slice A xs.length c∧aj bE W (fun _=>True) (.slice A xs.length c) xs:=arg_sl opens_bs Tryd.underlying62 h hv hw
end
def bcs (l:List UInt8):List Value:=l.map (fun x=> .int .u8 x.toNat)
theorem bcs_len (l:List UInt8):(bcs l).length=l.length:=by simp[bcs]
theorem bcs_one (l:List UInt8):∀u∈bcs l,u.oneCell'=true:=fun u hu=>by
 obtain⟨x,_,rfl⟩:=List.mem_map.1 hu;rfl
theorem bcs_at {w:World} {S:Nat→Prop} {A:Option Addr} {n c:Nat} {l:List UInt8} (h:aj bE w S (.slice A n c) l) (ad:Addr) (hA:A=some ad) (j:Nat) (u:Value) (hu:(bcs l)[j]?=some u):w.cell? (ad.add j)=some u:=by
 unfold bcs at hu;rw[List.getElem?_map] at hu
 cases hx:l[j]? with
 |none=>rw[hx] at hu;cases hu
 |some x=>
  rw[hx] at hu;simp at hu
  subst hu;obtain⟨b,o,hb,_,_,hc⟩:=h.at_b hx;rw[hA] at hb;injection hb with hb
  subst hb;rw[addr_add];exact hc
theorem bcs_nil {w:World} {S:Nat→Prop} {A:Option Addr} {n c:Nat} {l:List UInt8} (h:aj bE w S (.slice A n c) l) (hA:A=none):l.length=0:=by
 obtain⟨A',c',hv,_,_,_,h4⟩:=h
 cases hv
 by_cases hl:l= []
 ·rw[hl];rfl
 ·obtain⟨b,o,hb,_⟩:=h4 hl;rw[hA] at hb
  cases hb
theorem own_bs {w:World} {base:Nat} {A:Option Addr} {c:Nat} {l:List UInt8} (h:w.ownsRow base 5 1 (.slice A l.length c) l.length (bcs l)) (hs:l.length*1≤140737488355328):aj bE w (fun b=>base≤b) (.slice A l.length c) l:=by
 have ho:dQ bE w (fun _=>False) base 5 (.slice A l.length c) l:=⟨l.map (fun i=>[.int .u8 i.toNat]),⟨by simp,fun i x cs hx hc=>by
  rw[List.getElem?_map,hx] at hc;simp at hc
  subst hc;exact⟨rfl,rfl⟩⟩,by
  have e:(l.map (fun i=>[Value.int .u8 (i.toNat:Int)])).flatten=bcs l:=by
   clear h hs;unfold bcs;induction l with
   |nil=>rfl
   |cons a l ih=>simp at ih ⊢;exact ih
  rw[e];exact h,hs⟩
 exact ho.rd.keep (by decide) (fun b _ hb=>⟨hb.elim (fun h=>h.elim) id,rfl⟩)
theorem conv_own {w:World} {base:Nat} {B:Option Addr} {d:Nat} {xs:List Int} (h:w.ownsRow base 5 1 (.slice B xs.length d) xs.length (U8 xs)):
  (convert 62 9 (.slice B xs.length d)).run Tryd.prog w= .ok (.string (strOfNums xs)) w:=by
 cases B with
 |none=>
  have h0:xs.length=0:=by
   rcases h.2 with⟨h1,h0⟩|⟨g,cap,_,h1,_⟩
   ·exact h0
   ·injection h1 with h1;cases h1
  have hx:xs= []:=List.eq_nil_of_length_eq_zero h0;subst hx;exact run_convert_bytes_nil w 62 5 Tryd.underlying62 Tryd.underlying5 _ _ _ Tryd.underlying9
 |some ad=>
  obtain⟨b,o,f⟩:=ad;rcases h.2 with⟨h1,h0⟩|⟨g,cap,_,h1,_⟩
  ·cases h1
  ·injection h1 with h1 _ _
   injection h1 with h1
   injection h1 with e1 e2 e3
   subst e1 e2 e3;exact run_convert_bytes_arg w 62 5 Tryd.underlying62 Tryd.underlying5 b 0 xs.length d xs rfl (fun i hi=>by
    have:=h.cells (g:=b) rfl i (.int .u8 (xs.getD i 0)) (by simp[U8,zD hi,List.getD]);rw[addr_add] at this;simpa using this) _ Tryd.underlying9
theorem conv_rd {w:World} {S:Nat→Prop} {A:Option Addr} {n c:Nat} {l:List UInt8} (h:aj bE w S (.slice A n c) l):
  (convert 62 9 (.slice A n c)).run Tryd.prog w= .ok (.string (strOfNums (I8 l))) w:=by
 have hn:n=l.length:=(by obtain⟨_,_,hv,_⟩:=h;cases hv;rfl);subst hn;by_cases h0:l= []
 ·subst h0;show(convert 62 9 (.slice A 0 c)).run Tryd.prog w=_
  rw[run_convert_bytes_string w 62 9 5 A 0 c Tryd.underlying62 Tryd.underlying5 Tryd.underlying9]
  cases A with
  |none=>simp[Conv.bytesToString];rfl
  |some a=>simp[Conv.bytesToString,loadCells];rfl
 ·obtain⟨x,hx⟩:∃x,l[0]?=some x:=by
   cases l with
   |nil=>exact absurd rfl h0
   |cons x l=>exact⟨x,rfl⟩
  obtain⟨b,o,rfl,_,_,_⟩:=h.at_b hx;refine run_convert_bytes_arg w 62 5 Tryd.underlying62 Tryd.underlying5 b o l.length c (I8 l) (I8_len l) (fun i hi=>?_) _ Tryd.underlying9;have hil:i<l.length:=hi;obtain⟨b',o',hb,_,_,hc⟩:=h.at_b (zD hil);injection hb with hb
  injection hb with e1 e2
  subst e1 e2;rw[hc];simp[I8,List.getD,zD hil]
theorem numF_err:∀{l:List Int} {k:Nat} {n e:Int},numF l k n= .error e→e≠0
 | [],_,_,e,h=>by simp[numF] at h;omega
 |c::l,k,n,e,h=>by
  rw[numF] at h;split at h
  ·injection h with h;omega
  ·split at h
   ·cases h
   ·exact numF_err h
theorem regsF_err {op e:Int} {l:List Int} (h:regsF op l= .error e):e≠0:=by
 unfold regsF at h;split at h
 ·split at h
  ·injection h with h;omega
  ·split at h
   ·injection h with h;omega
   ·cases h
 ·cases h
theorem nextF_err {op e:Int} {l:List Int} (h:nextF op l= .error e):e≠0:=by
 unfold nextF at h;split at h
 ·split at h
  ·rename_i h1
   injection h with h
   subst h;exact numF_err h1
  ·cases h
 ·cases h
theorem instrF_err {l:List Int} {e:Int} (h:instrF l= .error e):e≠0:=by
 match l,h with
 | [],h=>injection h with h;omega
 |op::l,h=>
  rw[instrF] at h;split at h
  ·injection h with h;omega
  ·split at h
   ·rename_i h1
    injection h with h
    subst h;exact regsF_err h1
   ·split at h
    ·rename_i h1
     injection h with h
     subst h;exact nextF_err h1
    ·cases h
theorem codeD_errn:∀{m:Nat} {l:List Int} {e:Int},codeD m l= .error e→e≠0
 |0,_,_,h=>by cases h
 |m+1,l,e,h=>by
  rw[codeD] at h;split at h
  ·rename_i h1
   injection h with h
   subst h;exact instrF_err h1
  ·split at h
   ·rename_i h1
    injection h with h
    subst h;exact codeD_errn h1
   ·cases h
theorem kindsD_errn:∀{m:Nat} {l:List Int} {e:Int},kindsD m l= .error e→e≠0
 |0,_,_,h=>by cases h
 |_+1,[],e,h=>by injection h with h;omega
 |n+1,m::l,e,h=>by
  rw[kindsD] at h;split at h
  ·rename_i h1
   injection h with h
   subst h;exact codeD_errn h1
  ·split at h
   ·rename_i h1
    injection h with h
    subst h;exact kindsD_errn h1
   ·cases h
theorem progD_errn {l:List Int} {e:Int} (h:progD l= .error e):e≠0:=by
 unfold progD at h;split at h
 ·injection h with h;omega
 ·split at h
  ·split at h
   ·injection h with h;omega
   ·rename_i l _ _
    match l,h with
    | [],h=>injection h with h;omega
    |n::l,h=>
     rw[restD] at h;split at h
     ·rename_i h1
      injection h with h
      subst h;exact kindsD_errn h1
     ·split at h
      ·injection h with h;omega
      ·split at h
       ·rename_i h1
        injection h with h
        omega
       ·cases h
  ·injection h with h;omega
end Go.Proofs.YtdmocjnjbihloaaDoor
