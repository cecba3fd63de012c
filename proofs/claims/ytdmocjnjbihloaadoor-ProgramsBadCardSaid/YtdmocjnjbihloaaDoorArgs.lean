/- How the arguments of the laws are opened, at this translation's own types: values, objects, heaps, instructions, programs, actors, worlds, acts. No condition beside the form's own. -/
import Derived.Test.YtdmocjnjbihloaaDoorOpen
set_option maxRecDepth 100000
namespace Go.Proofs.YtdmocjnjbihloaaDoor
open Go.ChangeShapes Go.WideShapes Go.ChangeAt Go.RowKit Go.Deep
theorem own:ownKnob Tryd.prog.godebug=none:=by kernel_rfl
theorem laidOut:laidOutB Tryd.prog=true:=by kernel_rfl
theorem opens_i:Opens iE Tryd.prog 3:=by
 intro H enc w base spare held n cs d pl h _;obtain⟨k,rfl,_,_⟩:=DataW.trod_int Tryd.underlying3 h;exact⟨k,rfl,rfl⟩
theorem opens_v:Opens vE Tryd.prog 47:=by
 intro H enc w base spare held n cs d pl h _;obtain⟨ds,m,rfl,hl,hdl,hf⟩:=trod_fields Tryd.underlying47 (by kernel_rfl) (by kernel_rfl) h;obtain⟨v0,e0,p0,c0,_,h0⟩:=hf 0 _ rfl;obtain⟨v1,e1,p1,c1,_,h1⟩:=hf 1 _ rfl;obtain⟨k0,g0,_,_⟩:=DataW.trod_int Tryd.underlying3 h0;obtain⟨k1,g1,_,_⟩:=DataW.trod_int Tryd.underlying3 h1;match cs,hl with
 | [a,b],_=>
  simp at c0 c1 g0 g1
  subst c0 c1 g0 g1;exact⟨⟨k0,k1⟩,rfl,rfl⟩
theorem opens_vs:Opens (slE vE (by decide)) Tryd.prog 37:=opens_sl opens_v Tryd.underlying37 (by kernel_rfl) (by kernel_rfl) _
theorem opens_ob:Opens obE Tryd.prog 96:=by
 intro H enc w base spare held n cs d pl h hw;obtain⟨ds,m,rfl,hl,hdl,hf⟩:=trod_fields Tryd.underlying96 (by kernel_rfl) (by kernel_rfl) h;obtain⟨v0,e0,p0,c0,d0,h0⟩:=hf 0 _ rfl;obtain⟨v1,e1,p1,c1,d1,h1⟩:=hf 1 _ rfl;simp only[DataW.weights,Tryd.underlying96] at hw;obtain⟨xs,_,u,hu,hr⟩:=opens_vs enc w base spare held m _ _ _ h0 (fun x hx=>hw x (ow (i:=0) rfl d0 hx));obtain⟨k1,g1,_⟩:=DataW.trod_bool Tryd.underlying4 h1;match cs,hl with
 | [a,b],_=>
  simp at c0 c1 g1 hu
  subst c0 c1 g1 hu;exact⟨⟨xs,k1⟩,rfl,_,rfl,hr⟩
theorem opens_obs:Opens (slE obE (by decide)) Tryd.prog 34:=opens_sl opens_ob Tryd.underlying34 (by kernel_rfl) (by kernel_rfl) _
theorem opens_n:Opens eQ Tryd.prog 58:=by
 intro H enc w base spare held n cs d pl h _;obtain⟨ds,m,rfl,hl,hdl,hf⟩:=trod_fields Tryd.underlying58 (by kernel_rfl) (by kernel_rfl) h;obtain⟨v0,e0,p0,c0,_,h0⟩:=hf 0 _ rfl;obtain⟨v1,e1,p1,c1,_,h1⟩:=hf 1 _ rfl;obtain⟨v2,e2,p2,c2,_,h2⟩:=hf 2 _ rfl;obtain⟨v3,e3,p3,c3,_,h3⟩:=hf 3 _ rfl;obtain⟨k0,g0,_,_⟩:=DataW.trod_int Tryd.underlying3 h0;obtain⟨k1,g1,_,_⟩:=DataW.trod_int Tryd.underlying3 h1;obtain⟨k2,g2,_,_⟩:=DataW.trod_int Tryd.underlying3 h2;obtain⟨k3,g3,_,_⟩:=DataW.trod_int Tryd.underlying3 h3;match cs,hl with
 | [a,b,c,d],_=>
  simp at c0 c1 c2 c3 g0 g1 g2 g3
  subst c0 c1 c2 c3 g0 g1 g2 g3;exact⟨⟨k0,k1,k2,k3⟩,rfl,rfl⟩
theorem opens_ns:Opens (slE eQ (by decide)) Tryd.prog 59:=opens_sl opens_n Tryd.underlying59 (by kernel_rfl) (by kernel_rfl) _
theorem opens_nss:Opens (slE (slE eQ (by decide)) (by show 0<1;omega)) Tryd.prog 24:=opens_sl opens_ns Tryd.underlying24 (by kernel_rfl) (by kernel_rfl) _
theorem trod_fieldsN {H:Type} {enc:TypeId×Value→H} {P:Program} {w:World} {base:Nat} {spare:Nat→Bool} {held:Bool} {n:Nat} {t:TypeId} {fs:Array Field} {cs:List Value} {d:DataW H} {pl:List MemPlace} {size:Nat}
  (ht:P.underlying t=some (.struct fs)) (hC:P.cellsOf t=size) (h:DataW.trod enc P w base spare held n t cs=some (d,pl)):
  ∃(ds:List (DataW H)) (m:Nat),d= .agg ds∧cs.length=size∧
   ∀(i:Nat) (f:Field) (t:TypeId) (o k:Nat),fs[i]?=some f→f.type=t→f.offset=o→P.cellsOf t=k→∃e pl',ds[i]?=some e∧DataW.trod enc P w base spare held m t ((cs.drop o).take k)=some (e,pl'):=by
 obtain⟨xs,m,_,hx,hl,hxl,hf⟩:=DataW.trod_struct ht h;simp only[Prod.mk.injEq] at hx;obtain⟨rfl,-⟩:=hx;refine⟨xs.map (·.1),m,rfl,hl.trans hC,fun i f t o k hi ht' ho hk=>?_⟩;subst ht' ho hk;have hil:i<fs.size:=(Array.getElem?_eq_some_iff.1 hi).1;have h1:=hf i f hi;have hy:xs[i]?=some (xs[i]'(by omega)):=zD (by omega);rw[hy] at h1;exact⟨_,_,by rw[List.getElem?_map,hy];rfl,h1⟩
def hpE:El Hp where
 size:=2
 bytes:=32
 rd:=fun w S cs x=>∃v,cs= [.int .i64 x.most,v]∧aj obE w S v x.ah
 keep:=fun h ⟨v,hv,hr⟩=>⟨v,hv,hr.keep (by decide) h⟩
 one:=fun⟨v,hv,A,c,hA,_⟩ u hu=>by subst hv;subst hA;simp at hu;rcases hu with rfl|rfl<;>rfl
theorem opens_hp:Opens hpE Tryd.prog 36:=by
 intro H enc w base spare held n cs d pl h hw;obtain⟨ds,m,rfl,hl,hdl,hf⟩:=trod_fields Tryd.underlying36 (by kernel_rfl) (by kernel_rfl) h;obtain⟨v0,e0,p0,c0,d0,h0⟩:=hf 0 _ rfl;obtain⟨v1,e1,p1,c1,d1,h1⟩:=hf 1 _ rfl;simp only[DataW.weights,Tryd.underlying36] at hw;obtain⟨k0,g0,_,_⟩:=DataW.trod_int Tryd.underlying3 h0;obtain⟨xs,_,u,hu,hr⟩:=opens_obs enc w base spare held m _ _ _ h1 (fun x hx=>hw x (ow (i:=1) rfl d1 hx));match cs,hl with
 | [a,b],_=>
  simp at c0 c1 g0 hu
  subst c0 c1 g0 hu;exact⟨⟨k0,xs⟩,rfl,_,rfl,hr⟩
theorem opens_ac:Opens acE Tryd.prog 39:=by
 intro H enc w base spare held n cs d pl h hw;have ci:Tryd.prog.cellsOf 3=1:=(by kernel_rfl);have cs':Tryd.prog.cellsOf 37=1:=(by kernel_rfl);have ch:Tryd.prog.cellsOf 36=2:=(by kernel_rfl);obtain⟨ds,m,rfl,hl,hf⟩:=trod_fieldsN (size:=8) Tryd.underlying39 (by kernel_rfl) h;simp only[DataW.weights,Tryd.underlying39] at hw;match cs,hl with
 | [a0,a1,a2,a3,a4,a5,a6,a7],_=>
  obtain⟨e0,p0,d0,h0⟩:=hf 0 _ 3 0 _ rfl rfl rfl ci;obtain⟨e1,p1,d1,h1⟩:=hf 1 _ 3 1 _ rfl rfl rfl ci;obtain⟨e2,p2,d2,h2⟩:=hf 2 _ 36 2 _ rfl rfl rfl ch;obtain⟨e3,p3,d3,h3⟩:=hf 3 _ 37 4 _ rfl rfl rfl cs';obtain⟨e4,p4,d4,h4⟩:=hf 4 _ 3 5 _ rfl rfl rfl ci;obtain⟨e5,p5,d5,h5⟩:=hf 5 _ 37 6 _ rfl rfl rfl cs';obtain⟨e6,p6,d6,h6⟩:=hf 6 _ 3 7 _ rfl rfl rfl ci;simp only[List.drop_zero,List.drop_succ_cons,List.take_succ_cons,List.take_zero] at h0 h1 h2 h3 h4 h5 h6;obtain⟨k0,g0,_,_⟩:=DataW.trod_int Tryd.underlying3 h0;obtain⟨k1,g1,_,_⟩:=DataW.trod_int Tryd.underlying3 h1;obtain⟨hp,_,u2,hu2,hr2⟩:=opens_hp enc w base spare held m _ _ _ h2 (fun x hx=>hw x (ow (i:=2) rfl d2 hx));obtain⟨rg,_,u3,hu3,hr3⟩:=opens_vs enc w base spare held m _ _ _ h3 (fun x hx=>hw x (ow (i:=3) rfl d3 hx));obtain⟨k4,g4,_,_⟩:=DataW.trod_int Tryd.underlying3 h4;obtain⟨bx,_,u5,hu5,hr5⟩:=opens_vs enc w base spare held m _ _ _ h5 (fun x hx=>hw x (ow (i:=5) rfl d5 hx));obtain⟨k6,g6,_,_⟩:=DataW.trod_int Tryd.underlying3 h6;simp at g0 g1 hu2 hu3 g4 hu5 g6
  obtain⟨q2,q3⟩:=hu2;subst g0 g1 q2 q3 hu3 g4 hu5 g6;exact⟨⟨k0,k1,hp,rg,k4,bx,k6⟩,rfl,_,_,_,rfl,hr2,hr3,hr5⟩
theorem opens_td:Opens tdE Tryd.prog 70:=by
 intro H enc w base spare held n cs d pl h _;obtain⟨ds,m,rfl,hl,hdl,hf⟩:=trod_fields Tryd.underlying70 (by kernel_rfl) (by kernel_rfl) h;obtain⟨v0,e0,p0,c0,_,h0⟩:=hf 0 _ rfl;obtain⟨v1,e1,p1,c1,_,h1⟩:=hf 1 _ rfl;obtain⟨k0,g0,_,_⟩:=DataW.trod_int Tryd.underlying3 h0;obtain⟨k1,g1,_,_⟩:=DataW.trod_int Tryd.underlying3 h1;match cs,hl with
 | [a,b],_=>
  simp at c0 c1 g0 g1
  subst c0 c1 g0 g1;exact⟨⟨k0,k1⟩,rfl,rfl⟩
theorem opens_acs:Opens (slE acE (by decide)) Tryd.prog 28:=opens_sl opens_ac Tryd.underlying28 (by kernel_rfl) (by kernel_rfl) _
theorem opens_tds:Opens (slE tdE (by decide)) Tryd.prog 29:=opens_sl opens_td Tryd.underlying29 (by kernel_rfl) (by kernel_rfl) _
theorem sized_at {H:Type} {P:Program} {ts:List TypeId} {ds:List (DataW H)} {j:Nat} {t:TypeId} {d:DataW H} (h:(DataW.weightsEach P ts ds).all (· ≤reachBytes)=true) (ht:ts[j]?=some t) (hd:ds[j]?=some d):
  ∀x∈d.weights P t,x≤reachBytes:=fun x hx=>by
 have:=List.all_eq_true.1 h x (ow ht hd hx);simpa using this
theorem all_types {P:Program} {ts:List TypeId} (h:(ts.all fun t=>P.readableRec t&&decide (t<P.types.size))=true):∀t∈ts,P.readableRec t=true∧t<P.types.size:=fun t ht=>by
 have:=List.all_eq_true.1 h t ht;simpa using this
theorem wf_i64_range {a:Int} (h:(Lit.int .i64 a).wf=true): -9223372036854775808≤a∧a≤9223372036854775807:=by
 simp[Lit.wf,IntKind.min,IntKind.max,IntKind.signed,IntKind.bits] at h
 exact⟨by omega,by omega⟩
section
variable {H:Type} {enc:TypeId×Value→H} {W:World} {base b0:Nat} {spare:Nat→Bool} {held:Bool} {v:Value} {d:DataW H} {p:List MemPlace}
theorem arg_sl {α:Type} {E:El α} {hs:0<E.size} {t e:TypeId} (ho:Opens (slE E hs) Tryd.prog t) (ht:Tryd.prog.underlying t=some (.slice e)) (h:DataW.Trod enc Tryd.prog W base spare held t v d p)
  (hv:Value.okWide Tryd.prog W .any b0 t v) (hw:∀x∈d.weights Tryd.prog t,x≤reachBytes):∃xs A c,v= .slice A xs.length c∧aj E W (fun _=>True) (.slice A xs.length c) xs:=by
 obtain⟨n,hn⟩:=h;obtain⟨a,len,cap,rfl⟩:=okWide_slice ht hv;obtain⟨xs,_,u,hu,hr⟩:=ho enc W base spare held n _ _ _ hn hw;simp[Value.cells] at hu
 subst hu;obtain⟨A,c,he,_⟩:=hr.form
 cases he
 exact⟨xs,a,cap,rfl,hr⟩
theorem arg_vs (h:DataW.Trod enc Tryd.prog W base spare held 37 v d p) (hv:Value.okWide Tryd.prog W .any b0 37 v) (hw:∀x∈d.weights Tryd.prog 37,x≤reachBytes):
  ∃xs A c,v= .slice A xs.length c∧aj vE W (fun _=>True) (.slice A xs.length c) xs:=arg_sl opens_vs Tryd.underlying37 h hv hw
theorem arg_v (h:DataW.Trod enc Tryd.prog W base spare held 47 v d p) (hv:Value.okWide Tryd.prog W .any b0 47 v) (hw:∀x∈d.weights Tryd.prog 47,x≤reachBytes):
  ∃x:V,v= .agg #[.int .i64 x.k,.int .i64 x.n]:=by
 obtain⟨n,hn⟩:=h;obtain⟨⟨l⟩,rfl,_⟩:=okWide_struct Tryd.underlying47 hv;obtain⟨x,_,hx⟩:=opens_v enc W base spare held n _ _ _ hn hw;exact⟨x,congrArg (fun l:List Value=>Value.agg l.toArray) hx⟩
theorem arg_hp (h:DataW.Trod enc Tryd.prog W base spare held 36 v d p) (hv:Value.okWide Tryd.prog W .any b0 36 v) (hw:∀x∈d.weights Tryd.prog 36,x≤reachBytes):
  ∃m os A c,v= .agg #[.int .i64 m,.slice A os.length c]∧aj obE W (fun _=>True) (.slice A os.length c) os:=by
 obtain⟨n,hn⟩:=h;obtain⟨⟨l⟩,rfl,_⟩:=okWide_struct Tryd.underlying36 hv;obtain⟨ds,m,rfl,hl,hdl,hf⟩:=trod_fields Tryd.underlying36 (by kernel_rfl) (by kernel_rfl) hn;obtain⟨v0,e0,p0,c0,d0,h0⟩:=hf 0 _ rfl;obtain⟨v1,e1,p1,c1,d1,h1⟩:=hf 1 _ rfl;simp only[DataW.weights,Tryd.underlying36] at hw;obtain⟨k0,g0,_,_⟩:=DataW.trod_int Tryd.underlying3 h0;obtain⟨xs,_,u,hu,hr⟩:=opens_obs enc W base spare held m _ _ _ h1 (fun x hx=>hw x (ow (i:=1) rfl d1 hx));obtain⟨A,c,rfl,_⟩:=hr.form;simp only[Value.cells] at hl c0 c1;match l,hl with
 | [a,b],_=>
  simp at c0 c1 g0 hu
  subst c0 c1 g0 hu;exact⟨k0,xs,A,c,rfl,hr⟩
theorem arg_pg (h:DataW.Trod enc Tryd.prog W base spare held 26 v d p) (hv:Value.okWide Tryd.prog W .any b0 26 v) (hw:∀x∈d.weights Tryd.prog 26,x≤reachBytes):
  ∃ps A c,v= .agg #[.slice A ps.length c]∧aj (slE eQ (by decide)) W (fun _=>True) (.slice A ps.length c) ps:=by
 obtain⟨n,hn⟩:=h;obtain⟨⟨l⟩,rfl,_⟩:=okWide_struct Tryd.underlying26 hv;obtain⟨ds,m,rfl,hl,hdl,hf⟩:=trod_fields Tryd.underlying26 (by kernel_rfl) (by kernel_rfl) hn;obtain⟨v0,e0,p0,c0,d0,h0⟩:=hf 0 _ rfl;simp only[DataW.weights,Tryd.underlying26] at hw;obtain⟨xs,_,u,hu,hr⟩:=opens_nss enc W base spare held m _ _ _ h0 (fun x hx=>hw x (ow (i:=0) rfl d0 hx));obtain⟨A,c,rfl,_⟩:=hr.form;simp only[Value.cells] at hl c0;match l,hl with
 | [a],_=>
  simp at c0 hu
  subst c0 hu;exact⟨xs,A,c,rfl,hr⟩
theorem arg_wd (h:DataW.Trod enc Tryd.prog W base spare held 31 v d p) (hv:Value.okWide Tryd.prog W .any b0 31 v) (hw:∀x∈d.weights Tryd.prog 31,x≤reachBytes):
  ∃(x:Wd) (A:Option Addr) (c:Nat) (B:Option Addr) (e:Nat),v= .agg #[.slice A x.aa.length c,.slice B x.prints.length e]∧aj acE W (fun _=>True) (.slice A x.aa.length c) x.aa∧aj tdE W (fun _=>True) (.slice B x.prints.length e) x.prints:=by
 obtain⟨n,hn⟩:=h;obtain⟨⟨l⟩,rfl,_⟩:=okWide_struct Tryd.underlying31 hv;obtain⟨ds,m,rfl,hl,hdl,hf⟩:=trod_fields Tryd.underlying31 (by kernel_rfl) (by kernel_rfl) hn;obtain⟨v0,e0,p0,c0,d0,h0⟩:=hf 0 _ rfl;obtain⟨v1,e1,p1,c1,d1,h1⟩:=hf 1 _ rfl;simp only[DataW.weights,Tryd.underlying31] at hw;obtain⟨xs,_,u,hu,hr⟩:=opens_acs enc W base spare held m _ _ _ h0 (fun x hx=>hw x (ow (i:=0) rfl d0 hx));obtain⟨ys,_,u',hu',hr'⟩:=opens_tds enc W base spare held m _ _ _ h1 (fun x hx=>hw x (ow (i:=1) rfl d1 hx));obtain⟨A,c,rfl,_⟩:=hr.form;obtain⟨B,e,rfl,_⟩:=hr'.form;simp only[Value.cells] at hl c0 c1;match l,hl with
 | [a,b],_=>
  simp at c0 c1 hu hu'
  subst c0 c1 hu hu';exact⟨⟨xs,ys⟩,A,c,B,e,rfl,hr,hr'⟩
end
theorem opens_rw:Opens rwE Tryd.prog 124:=by
 intro H enc w base spare held n cs d pl h _;obtain⟨ds,m,rfl,hl,hdl,hf⟩:=trod_fields Tryd.underlying124 (by kernel_rfl) (by kernel_rfl) h;obtain⟨v0,e0,p0,c0,_,h0⟩:=hf 0 _ rfl;obtain⟨v1,e1,p1,c1,_,h1⟩:=hf 1 _ rfl;obtain⟨v2,e2,p2,c2,_,h2⟩:=hf 2 _ rfl;obtain⟨v3,e3,p3,c3,_,h3⟩:=hf 3 _ rfl;obtain⟨k0,g0,_,w0⟩:=DataW.trod_int Tryd.underlying3 h0;obtain⟨k1,g1,_,w1⟩:=DataW.trod_int Tryd.underlying3 h1;obtain⟨k2,g2,_,w2⟩:=DataW.trod_int Tryd.underlying3 h2;obtain⟨k3,g3,_,w3⟩:=DataW.trod_int Tryd.underlying3 h3;match cs,hl with
 | [a,b,c,d],_=>
  simp at c0 c1 c2 c3 g0 g1 g2 g3
  subst c0 c1 c2 c3 g0 g1 g2 g3;exact⟨⟨k0,k1,k2,k3⟩,rfl,rfl,w0,w1,w2,w3⟩
theorem opens_rws:Opens (slE rwE (by decide)) Tryd.prog 22:=opens_sl opens_rw Tryd.underlying22 (by kernel_rfl) (by kernel_rfl) _
theorem arg_rs {H:Type} {enc:TypeId×Value→H} {W:World} {base b0:Nat} {spare:Nat→Bool} {held:Bool} {v:Value} {d:DataW H} {p:List MemPlace} (h:DataW.Trod enc Tryd.prog W base spare held 22 v d p) (hv:Value.okWide Tryd.prog W .any b0 22 v) (hw:∀x∈d.weights Tryd.prog 22,x≤reachBytes):
  ∃xs A c,v= .slice A xs.length c∧aj rwE W (fun _=>True) (.slice A xs.length c) xs:=arg_sl opens_rws Tryd.underlying22 h hv hw
end Go.Proofs.YtdmocjnjbihloaaDoor
