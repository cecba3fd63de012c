/- How the arguments of the laws are opened, at this translation's own types: values, objects, heaps, instructions, programs, actors, worlds, acts. No condition beside the form's own. -/
import Derived.Test.YtmgbhhabdapniaaGreatDoorOpen
set_option maxRecDepth 100000
namespace Go.Proofs.YtmgbhhabdapniaaGreatDoor
open Go.ChangeShapes Go.WideShapes Go.ChangeAt Go.RowKit Go.Deep
theorem own:ownKnob Tryz.prog.godebug=none:=by kernel_rfl
theorem laidOut:laidOutB Tryz.prog=true:=by kernel_rfl
theorem sized_at {H:Type} {P:Program} {ts:List TypeId} {ds:List (DataW H)} {j:Nat} {t:TypeId} {d:DataW H} (h:(DataW.weightsEach P ts ds).all (· ≤reachBytes)=true) (ht:ts[j]?=some t) (hd:ds[j]?=some d):
  ∀x∈d.weights P t,x≤reachBytes:=fun x hx=>by
 have:=List.all_eq_true.1 h x (ow ht hd hx);simpa using this
theorem all_types {P:Program} {ts:List TypeId} (h:(ts.all fun t=>P.readableRec t&&decide (t<P.types.size))=true):∀t∈ts,P.readableRec t=true∧t<P.types.size:=fun t ht=>by
 have:=List.all_eq_true.1 h t ht;simpa using this
theorem wf_i64_range {a:Int} (h:(Lit.int .i64 a).wf=true): -9223372036854775808≤a∧a≤9223372036854775807:=by
 simp[Lit.wf,IntKind.min,IntKind.max,IntKind.signed,IntKind.bits] at h
 exact⟨by omega,by omega⟩
section
variable {H:Type} {enc:TypeId×Value→H} {W:World} {base b0:Nat} {spare:Nat→Bool} {held:Bool} {v:Value} {d:DataW H} {p:List MemPlace}
theorem arg_sl {α:Type} {E:El α} {hs:0<E.size} {t e:TypeId} (ho:Opens (slE E hs) Tryz.prog t) (ht:Tryz.prog.underlying t=some (.slice e)) (h:DataW.Trod enc Tryz.prog W base spare held t v d p)
  (hv:Value.okWide Tryz.prog W .any b0 t v) (hw:∀x∈d.weights Tryz.prog t,x≤reachBytes):∃xs A c,v= .slice A xs.length c∧aj E W (fun _=>True) (.slice A xs.length c) xs:=by
 obtain⟨n,hn⟩:=h;obtain⟨a,len,cap,rfl⟩:=okWide_slice ht hv;obtain⟨xs,_,u,hu,hr⟩:=ho enc W base spare held n _ _ _ hn hw;simp[Value.cells] at hu
 subst hu;obtain⟨A,c,he,_⟩:=hr.form
 cases he
 exact⟨xs,a,cap,rfl,hr⟩
end
theorem opens_rw:Opens rwE Tryz.prog 127:=by
 intro H enc w base spare held n cs d pl h _;obtain⟨ds,m,rfl,hl,hdl,hf⟩:=trod_fields Tryz.underlying127 (by kernel_rfl) (by kernel_rfl) h;obtain⟨v0,e0,p0,c0,_,h0⟩:=hf 0 _ rfl;obtain⟨v1,e1,p1,c1,_,h1⟩:=hf 1 _ rfl;obtain⟨v2,e2,p2,c2,_,h2⟩:=hf 2 _ rfl;obtain⟨v3,e3,p3,c3,_,h3⟩:=hf 3 _ rfl;obtain⟨k0,g0,_,w0⟩:=DataW.trod_int Tryz.underlying3 h0;obtain⟨k1,g1,_,w1⟩:=DataW.trod_int Tryz.underlying3 h1;obtain⟨k2,g2,_,w2⟩:=DataW.trod_int Tryz.underlying3 h2;obtain⟨k3,g3,_,w3⟩:=DataW.trod_int Tryz.underlying3 h3;match cs,hl with
 | [a,b,c,d],_=>
  simp at c0 c1 c2 c3 g0 g1 g2 g3
  subst c0 c1 c2 c3 g0 g1 g2 g3;exact⟨⟨k0,k1,k2,k3⟩,rfl,rfl,w0,w1,w2,w3⟩
theorem opens_rws:Opens (slE rwE (by decide)) Tryz.prog 40:=opens_sl opens_rw Tryz.underlying40 (by kernel_rfl) (by kernel_rfl) _
theorem arg_rs {H:Type} {enc:TypeId×Value→H} {W:World} {base b0:Nat} {spare:Nat→Bool} {held:Bool} {v:Value} {d:DataW H} {p:List MemPlace} (h:DataW.Trod enc Tryz.prog W base spare held 40 v d p) (hv:Value.okWide Tryz.prog W .any b0 40 v) (hw:∀x∈d.weights Tryz.prog 40,x≤reachBytes):
  ∃xs A c,v= .slice A xs.length c∧aj rwE W (fun _=>True) (.slice A xs.length c) xs:=arg_sl opens_rws Tryz.underlying40 h hv hw
end Go.Proofs.YtmgbhhabdapniaaGreatDoor
