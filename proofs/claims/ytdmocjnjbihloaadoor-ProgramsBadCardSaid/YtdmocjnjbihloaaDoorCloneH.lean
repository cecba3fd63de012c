/- <<iffile f slices.Clone[[]api.Object,api.Object]>> The walk of slices.Clone at api.Object: a new row that holds the same list. No condition beside what is read. <<iffile f slices.Clone[[]api.Value,api.Value]>> The walk of slices.Clone at api.Value: a new row that holds the same list. No condition beside what is read. The walk of heap.Clone: the same heap, each object's fields in a row of their own. No condition beside what is read. A heap whose rows lie apart: what stays of it when other memory turns, and what an object more does to it. No condition. <<iffile f slices.Clone[[]api.Told,api.Told]>> The walk of slices.Clone at api.Told: a new row that holds the same list. No condition beside what is read. -/
import Derived.Test.YtdmocjnjbihloaaDoorHeapB
import Derived.Deep.RegionLaw
import Derived.Deep.RegionWith
namespace Go.Proofs.YtdmocjnjbihloaaDoor
section
open Go.RowKit
def ClonedO (w:World) (S:Nat→Prop) (xs:List Ob) (en:Ending) (w':World):Prop:=∃v,en= .returned v∧dQ obE w' S w.heap.size 96 v xs∧Below w.heap.size w w'
theorem infoO:(Tryd.prog.info? 96).map (fun i=>(i.zero,i.size,i.bytes))=some (some (.agg #[.slice none 0 0,.bool false]),2,32):=by kernel_rfl
set_option maxHeartbeats 1000000 in
theorem cloneO_any (S:Nat→Prop) (A:Option Addr) (c:Nat) (xs:List Ob) (w:World) (hr:aj obE w S (.slice A xs.length c) xs):
  Calls Tryd.prog 79 #[.slice A xs.length c] w (ClonedO w S xs):=by
 obtain⟨-,h1,h2,h3⟩:=hr.fw;obtain⟨i0,hi0,hz0,hz1,hz2⟩:=info_parts infoO;obtain⟨css,hH,hflat⟩:=hr.held;rcases A with _|ad
 ·have hx:xs= []:=by
   obtain⟨A',c',hv,_,_,_,h4⟩:=hr
   cases hv
   by_cases hne:xs= []
   ·exact hne
   ·obtain⟨b,o,hA,_⟩:=h4 hne
    cases hA
  subst hx;have he:∀W:World,Sem.run Tryd.prog (binOp BinOp.eql 34 (.slice none 0 c) (.slice none 0 0)) W= .ok (.bool true) W:=fun W=>Lib.run_eql_slice_nil W 34 96 none 0 c 0 0 Tryd.underlying34;clear hr hH hflat h1 h2 h3;go_enter Tryd.func79,Tryd.ntmps79
  go_wp2
  go_ret
  exact⟨_,rfl,⟨[],Held.nil,⟨rfl,.inl ⟨rfl,rfl⟩⟩,by simp⟩,Below.refl _ _⟩
 ·have he:∀W:World,Sem.run Tryd.prog (binOp BinOp.eql 34 (.slice (some ad) xs.length c) (.slice none 0 0)) W= .ok (.bool false) W:=fun W=>Lib.run_eql_slice_nil W 34 96 (some ad) xs.length c 0 0 Tryd.underlying34;have hb:∀b,b<w.heap.size→S b→S b∧(w.alloc (.cells #[] 96)).heap[b]?=w.heap[b]?:=fun b hb hS=>⟨hS,Below.heap_alloc _ _ _ hb⟩;have Hfl:=zG (hflat ad rfl);have HH:=zG hH;have Hb:=zG hb;have Hlen:=zG (nu hH.size);have Hl2:=zG hH.len;have hown:(w.alloc (.cells #[] 96)).ownsRow w.heap.size 96 2 (.slice (some ⟨w.heap.size,0,none⟩) 0 0) 0 []:=
   ⟨rfl,.inr ⟨w.heap.size,0,#[],rfl,Nat.le_refl _,heap_alloc_new w _,Nat.le_refl _,Nat.zero_le _,rfl,rfl⟩⟩
  have Hown:=zG hown;clear hr hH hflat hb hown;go_enter Tryd.func79,Tryd.ntmps79
  go_wp2_with (at_builtin;refine wpList_append_own _ rfl (.tmp 5) (.tmp 6) _ rfl w.heap.size 96 i0 _ 2 32 Tryd.underlying34 hi0 hz0 hz1 hz2 rfl (by omega) (.slice (some ⟨w.heap.size,0,none⟩) 0 0) 0 [] rfl Hown.out ad xs.length c css.flatten rfl ?c1 ?c2 ?c3 ?c4 ?c5 ?c6 ?next)
  case c1=>rw[Hlen.out,Hl2.out];rfl
  case c2=>
   intro j u hu;have:=Hfl.out j u hu;rw[←this];refine World.cell?_alloc_lt w _ _ ?_;have hne:w.cell? (ad.add j)≠none:=(by rw[this];simp);rcases Nat.lt_or_ge (ad.add j).block w.heap.size with hl|hg
   ·exact hl
   ·exact absurd (by simp[World.cell?,Array.getElem?_eq_none hg]) hne
  case c3=>exact HH.one
  case c4=>unfold maxLen;omega
  case c5=>have h4:xs.length*32≤140737488355328:=h3;omega
  case c6=>simp
  case next=>
   intro v' w' hown' hg _;have Hown':=zG hown';clear hown';go_wp2
   go_ret
   have hB:Below w.heap.size w w':=((Below.refl _ _).alloc (Nat.le_refl _) _).grown hg (by simp) (fun k hk=>by simp[Value.ownBlock] at hk;omega);exact⟨_,rfl,⟨css,HH.keep (fun b hb hS=>⟨hS,hB.block b hb⟩),(by simpa using Hown'.out:w'.ownsRow w.heap.size 96 2 v' xs.length css.flatten),h3⟩,hB⟩
end
section
open Go.RowKit
def ClonedV (w:World) (S:Nat→Prop) (xs:List V) (en:Ending) (w':World):Prop:=∃v,en= .returned v∧dQ vE w' S w.heap.size 47 v xs∧Below w.heap.size w w'
theorem oZ:(Tryd.prog.info? 47).map (fun i=>(i.zero,i.size,i.bytes))=some (some (.agg #[.int .i64 0,.int .i64 0]),2,16):=by kernel_rfl
set_option maxHeartbeats 1000000 in
theorem mG (S:Nat→Prop) (A:Option Addr) (c:Nat) (xs:List V) (w:World) (hr:aj vE w S (.slice A xs.length c) xs):
  Calls Tryd.prog 56 #[.slice A xs.length c] w (ClonedV w S xs):=by
 obtain⟨-,h1,h2,h3⟩:=hr.fw;obtain⟨i0,hi0,hz0,hz1,hz2⟩:=info_parts oZ;obtain⟨css,hH,hflat⟩:=hr.held;rcases A with _|ad
 ·have hx:xs= []:=by
   obtain⟨A',c',hv,_,_,_,h4⟩:=hr
   cases hv
   by_cases hne:xs= []
   ·exact hne
   ·obtain⟨b,o,hA,_⟩:=h4 hne
    cases hA
  subst hx;have he:∀W:World,Sem.run Tryd.prog (binOp BinOp.eql 37 (.slice none 0 c) (.slice none 0 0)) W= .ok (.bool true) W:=fun W=>Lib.run_eql_slice_nil W 37 47 none 0 c 0 0 Tryd.underlying37;clear hr hH hflat h1 h2 h3;go_enter Tryd.func56,Tryd.ntmps56
  go_wp2
  go_ret
  exact⟨_,rfl,⟨[],Held.nil,⟨rfl,.inl ⟨rfl,rfl⟩⟩,by simp⟩,Below.refl _ _⟩
 ·have he:∀W:World,Sem.run Tryd.prog (binOp BinOp.eql 37 (.slice (some ad) xs.length c) (.slice none 0 0)) W= .ok (.bool false) W:=fun W=>Lib.run_eql_slice_nil W 37 47 (some ad) xs.length c 0 0 Tryd.underlying37;have hb:∀b,b<w.heap.size→S b→S b∧(w.alloc (.cells #[] 47)).heap[b]?=w.heap[b]?:=fun b hb hS=>⟨hS,Below.heap_alloc _ _ _ hb⟩;have Hfl:=zG (hflat ad rfl);have HH:=zG hH;have Hb:=zG hb;have Hlen:=zG (nu hH.size);have Hl2:=zG hH.len;have hown:(w.alloc (.cells #[] 47)).ownsRow w.heap.size 47 2 (.slice (some ⟨w.heap.size,0,none⟩) 0 0) 0 []:=
   ⟨rfl,.inr ⟨w.heap.size,0,#[],rfl,Nat.le_refl _,heap_alloc_new w _,Nat.le_refl _,Nat.zero_le _,rfl,rfl⟩⟩
  have Hown:=zG hown;clear hr hH hflat hb hown;go_enter Tryd.func56,Tryd.ntmps56
  go_wp2_with (at_builtin;refine wpList_append_own _ rfl (.tmp 5) (.tmp 6) _ rfl w.heap.size 47 i0 _ 2 16 Tryd.underlying37 hi0 hz0 hz1 hz2 rfl (by omega) (.slice (some ⟨w.heap.size,0,none⟩) 0 0) 0 [] rfl Hown.out ad xs.length c css.flatten rfl ?c1 ?c2 ?c3 ?c4 ?c5 ?c6 ?next)
  case c1=>rw[Hlen.out,Hl2.out];rfl
  case c2=>
   intro j u hu;have:=Hfl.out j u hu;rw[←this];refine World.cell?_alloc_lt w _ _ ?_;have hne:w.cell? (ad.add j)≠none:=(by rw[this];simp);rcases Nat.lt_or_ge (ad.add j).block w.heap.size with hl|hg
   ·exact hl
   ·exact absurd (by simp[World.cell?,Array.getElem?_eq_none hg]) hne
  case c3=>exact HH.one
  case c4=>unfold maxLen;omega
  case c5=>have h4:xs.length*16≤140737488355328:=h3;omega
  case c6=>simp
  case next=>
   intro v' w' hown' hg _;have Hown':=zG hown';clear hown';go_wp2
   go_ret
   have hB:Below w.heap.size w w':=((Below.refl _ _).alloc (Nat.le_refl _) _).grown hg (by simp) (fun k hk=>by simp[Value.ownBlock] at hk;omega);exact⟨_,rfl,⟨css,HH.keep (fun b hb hS=>⟨hS,hB.block b hb⟩),(by simpa using Hown'.out:w'.ownsRow w.heap.size 47 2 v' xs.length css.flatten),h3⟩,hB⟩
end
section
open Go.RowKit
def rowsOf (vs:List Value) (os:List Ob):List (List Value):=List.zipWith (fun u o=>[u,.bool o.dead]) vs os
structure gD (w:World) (S:Nat→Prop) (base:Nat) (v:Value) (os:List Ob) (vs:List Value) (k:Nat):Prop where
 len:vs.length=os.length
 row:w.ownsRow base 96 2 v os.length (rowsOf vs os).flatten
 done:∀(i:Nat) (o:Ob) (u:Value),i<k→os[i]?=some o→vs[i]?=some u→dQ vE w (fun _=>False) base 47 u o.fields
 left:∀(i:Nat) (o:Ob) (u:Value),k≤i→os[i]?=some o→vs[i]?=some u→aj vE w S u o.fields
 apart:∀(i j:Nat) (u u':Value) (b:Nat),i<k→j<k→i≠j→vs[i]?=some u→vs[j]?=some u'→u.ownBlock=some b→u'.ownBlock≠some b
theorem rowsOf_len {vs:List Value} {os:List Ob} (h:vs.length=os.length):(rowsOf vs os).length=os.length:=by simp[rowsOf,h]
theorem nA {vs:List Value} {os:List Ob} {i:Nat} {o:Ob} {u:Value} (ho:os[i]?=some o) (hu:vs[i]?=some u):(rowsOf vs os)[i]?=some [u,.bool o.dead]:=by
 simp[rowsOf,List.getElem?_zipWith,ho,hu]
theorem oC (vs:List Value) (os:List Ob):∀cs∈rowsOf vs os,cs.length=2:=fun cs hc=>by
 obtain⟨i,hi⟩:=List.getElem?_of_mem hc;simp only[rowsOf,List.getElem?_zipWith] at hi;split at hi
 ·injection hi with hi;rw[←hi];rfl
 ·cases hi
theorem rowsOf_set {vs:List Value} {os:List Ob} {k:Nat} {o:Ob} (ho:os[k]?=some o) (u:Value):rowsOf (vs.set k u) os=(rowsOf vs os).set k [u,.bool o.dead]:=by
 obtain⟨hk,rfl⟩:=zE.1 ho;apply List.ext_getElem?
 intro i;simp only[rowsOf,List.getElem?_zipWith,List.getElem?_set];by_cases h:k=i
 ·subst h;by_cases hl:k<vs.length
  ·simp[hl,hk]
   omega
  ·simp[hl]
   omega
 ·simp[h]
theorem held_ob {w:World} {S:Nat→Prop} {css:List (List Value)} {os:List Ob} (h:Held obE w S css os):
  ∃vs:List Value,vs.length=os.length∧css=rowsOf vs os∧∀(i:Nat) (o:Ob) (u:Value),os[i]?=some o→vs[i]?=some u→aj vE w S u o.fields:=by
 have hat:∀(i:Nat) (o:Ob) (cs:List Value),os[i]?=some o→css[i]?=some cs→∃u,cs= [u,.bool o.dead]∧aj vE w S u o.fields:=fun i o cs ho hc=>(h.each i o cs ho hc).2;refine⟨css.map (fun cs=>cs.headD (.bool false)),by simp[h.len],?_,fun i o u ho hu=>?_⟩
 ·apply List.ext_getElem?
  intro i;simp only[rowsOf,List.getElem?_zipWith,List.getElem?_map]
  cases hc:css[i]? with
  |none=>simp
  |some cs=>
   have hi:i<os.length:=(by rw[←h.len];exact(zE.1 hc).1);obtain⟨u,rfl,_⟩:=hat i os[i] cs (zD hi) hc;simp[zD hi]
 ·rw[List.getElem?_map] at hu
  cases hc:css[i]? with
  |none=>rw[hc] at hu;cases hu
  |some cs=>
   obtain⟨u',rfl,hr⟩:=hat i o cs ho hc;rw[hc] at hu;simp at hu
   rw[←hu];exact hr
theorem gD.rd {w:World} {S:Nat→Prop} {base:Nat} {v:Value} {os:List Ob} {vs:List Value} (h:gD w S base v os vs os.length) (hs:os.length*32≤140737488355328):aj obE w (fun b=>base≤b) v os:=by
 have hH:Held obE w (fun b=>base≤b) (rowsOf vs os) os:=⟨rowsOf_len h.len,fun i o cs ho hc=>by
  have hi:=(zE.1 ho).1;have hu:vs[i]?=some (vs[i]'(by rw[h.len];exact hi)):=zD _;rw[nA ho hu] at hc;injection hc with hc
  subst hc;exact⟨rfl,_,rfl,(h.done i o _ hi ho hu).rd.keep (by decide) (fun b _ hS=>⟨hS.resolve_left id,rfl⟩)⟩⟩
 have ho:dQ obE w (fun b=>base≤b) base 96 v os:=⟨_,hH,h.row,hs⟩;exact ho.rd.keep (by decide) (fun b _ hS=>⟨hS.elim id id,rfl⟩)
def ClonedH (w:World) (m:Int) (os:List Ob) (en:Ending) (w':World):Prop:=
 ∃v vs,en= .returned (.agg #[.int .i64 m,v])∧gD w' (fun _=>False) w.heap.size v os vs os.length∧os.length*32≤140737488355328∧Below w.heap.size w w'
set_option maxRecDepth 100000 in
set_option maxHeartbeats 4000000 in
theorem lU (m:Int) (S:Nat→Prop) (A:Option Addr) (c:Nat) (os:List Ob) (w:World) (hr:aj obE w S (.slice A os.length c) os):
  Calls Tryd.prog 55 #[.agg #[.int .i64 m,.slice A os.length c]] w (ClonedH w m os):=by
 obtain⟨-,h1,h2,h3⟩:=hr.fw;have H3:os.length*32≤140737488355328:=h3;have Hr:=zG hr;clear hr h3;have hB:Below w.heap.size w ((w.alloc (.cells #[.int .i64 m,.slice A os.length c] 36)).alloc (.cells #[.int .i64 0,.slice none 0 0] 36)):=((Below.refl _ _).alloc (Nat.le_refl _) _).alloc (by simp) _;go_enter Tryd.func55,Tryd.ntmps55
 go_wp2_with fail;refine(cloneO_any _ A c os _ ((Hr.keep (S':=fun b=>S b∧b<w.heap.size) (by decide) (fun b hb hS=>⟨⟨hS,hb⟩,rfl⟩)).below (by decide) hB)).mono ?_;rintro e w1 ⟨v,rfl,hown1,hb1⟩;obtain⟨A1,c1,hv1⟩:=hown1.form;subst hv1;have Hown1:=zG hown1;have hq0:w1.heap[w.heap.size]?=some (.cells #[.int .i64 m,.slice A os.length c] 36 (0,0)):=(hb1.block _ (by simp;omega)).trans (nT (gG rfl));have hq1:w1.heap[w.heap.size+1]?=some (.cells #[.int .i64 0,.slice none 0 0] 36 (0,0)):=(hb1.block _ (by simp)).trans (gG (by simp));have k1:w1.cell? ⟨w.heap.size,1,none⟩=some (.slice A os.length c):=cell_of_row w1 _ 1 _ _ _ hq0;have f1:w1.frozen? ⟨w.heap.size,1,none⟩=false:=(by simp[World.frozen?,hq0]);have hz1:w.heap.size+1+1≤w1.heap.size:=(by have:=hb1.size;simpa using this);have Hq0:=zG hq0;have Hq1:=zG hq1;have hq0':(w1.setCell ⟨w.heap.size,1,none⟩ (.slice A1 os.length c1)).heap[w.heap.size]?=some (.cells #[.int .i64 m,.slice A1 os.length c1] 36 (0,0)):=jK hq0 _;have hq1':(w1.setCell ⟨w.heap.size,1,none⟩ (.slice A1 os.length c1)).heap[w.heap.size+1]?=some (.cells #[.int .i64 0,.slice none 0 0] 36 (0,0)):=(Below.heap_setCell _ _ _ _ (by simp)).trans hq1;have hb2:Below w.heap.size w (w1.setCell ⟨w.heap.size,1,none⟩ (.slice A1 os.length c1)):=(hB.trans (hb1.mono (by simp;omega))).setCell (Nat.le_refl _) _;have hsep:∃vs,gD (w1.setCell ⟨w.heap.size,1,none⟩ (.slice A1 os.length c1)) (fun b=>S b∧b<w.heap.size) (w.heap.size+1+1) (.slice A1 os.length c1) os vs 0:=by
  obtain⟨css,hH,hrow,_⟩:=hown1;obtain⟨vs,hvl,rfl,hvr⟩:=held_ob hH;have hs:((w.alloc (.cells #[.int .i64 m,.slice A os.length c] 36)).alloc (.cells #[.int .i64 0,.slice none 0 0] 36)).heap.size=w.heap.size+1+1:=(by simp);rw[hs] at hrow;exact⟨vs,hvl,ownsRow_setCell_below hrow (show w.heap.size<w.heap.size+1+1 by omega) _,fun i o u h=>by omega,
   fun i o u _ ho hu=>(hvr i o u ho hu).keep (by decide) (fun b hb hS=>⟨hS,Below.heap_setCell _ _ _ _ (by have:=hS.2;show b≠w.heap.size;omega)⟩),fun i j u u' b h=>by omega⟩
 obtain⟨vs0,hsep⟩:=hsep;have Hsep:=zG hsep;have Hq0':=zG hq0';have Hq1':=zG hq1';have Hb2:=zG hb2;clear hown1 hq0 hq1 hq0' hq1' hb2 hsep;go_wp2_with fail;go_loopw [3,11] (fun _ i wr=>∃(k:Nat) (vs:List Value),k≤os.length∧i= .int .i64 k∧gD wr (fun b=>S b∧b<w.heap.size) (w.heap.size+1+1) (.slice A1 os.length c1) os vs k∧
   wr.heap[w.heap.size]?=some (.cells #[.int .i64 m,.slice A1 os.length c1] 36 (0,0))∧wr.heap[w.heap.size+1]?=some (.cells #[.int .i64 0,.slice none 0 0] 36 (0,0))∧
   Below w.heap.size w wr∧w.heap.size+1+1≤wr.heap.size) (fun _ i _=>os.length - (intOf i).toNat)
 case atStart=>exact⟨0,vs0,by omega,rfl,Hsep.out,Hq0'.out,Hq1'.out,Hb2.out,by simp only[World.setCell,Array.size_modify];omega⟩
 case round=>
  obtain⟨k,vs,hk,rfl,hsep,hq0,hq1,hb,hsz⟩:=hrel;by_cases hlt:k<os.length
  ·obtain⟨g,cap,hv,hgb,hgl⟩:=hsep.row.form (by omega)
   cases hv
   obtain⟨o,ho⟩:∃o,os[k]?=some o:=⟨os[k],zD hlt⟩;obtain⟨u,hu⟩:∃u,vs[k]?=some u:=⟨vs[k]'(by rw[hsep.len];exact hlt),zD _⟩;have hru:=hsep.left k o u (Nat.le_refl _) ho hu;obtain⟨B,d,rfl,_⟩:=hru.form;have hflat:=fun (j:Nat) (z:Value) (h:[Value.slice B o.fields.length d,.bool o.dead][j]?=some z)=>jT (oC vs os) (nA ho hu) h;have c0:wr.cell? ⟨g,k*2,none⟩=some (.slice B o.fields.length d):=by
    have:=hsep.row.cells (g:=g) rfl _ _ (hflat 0 _ rfl);rw[addr_add] at this;simpa using this
   have fg:wr.frozen? ⟨g,k*2,none⟩=false:=by
    rcases hsep.row.2 with⟨h0,_⟩|⟨g',cap',cur,hv,_,hh,_⟩
    ·cases h0
    ·cases hv
     simp[World.frozen?,hh]
   have k1:wr.cell? ⟨w.heap.size,1,none⟩=some (.slice (some ⟨g,0,none⟩) os.length c1):=cell_of_row wr _ 1 _ _ _ hq0;have Ho:=zG ho;have Hu:=zG hu;have Hsep:=zG hsep;have Hru:=zG hru;have Hq0:=zG hq0;have Hq1:=zG hq1;clear hflat ho hu hsep hru hq0 hq1;have i1:(0:Int)≤(k:Int):=(by omega);have i2:(k:Int)<(os.length:Int):=(by omega);go_wp2_with fail;go_region_law (go_simp;go_at_call 56;refine(mG _ _ _ _ _ (Hru.below (by decide) (Below.refl _ _).drew)).mono ?_;rintro e w3 ⟨u1,rfl,hown3,hb3⟩;have cc:w3.cell? ⟨g,k*2,none⟩=some (.slice B o.fields.length d):=(hb3.cell (p:=⟨g,k*2,none⟩) hgl).trans c0;have fg1:w3.frozen? ⟨g,k*2,none⟩=false:=(hb3.frozen (p:=⟨g,k*2,none⟩) hgl).trans fg;have k2:w3.cell? ⟨w.heap.size,1,none⟩=some (.slice (some ⟨g,0,none⟩) os.length c1):=(hb3.cell (p:=⟨w.heap.size,1,none⟩) (by simp;omega)).trans k1;obtain⟨A3,c3,hv3⟩:=hown3.form;subst hv3;have Hown3:=zG hown3;clear hown3)
   all_goals
    go_wp2
    have hb4:Below w.heap.size w w3:=hb.drew.trans (hb3.mono (by simp;omega));have hz3:wr.heap.size≤w3.heap.size:=hb3.size;have ho3:=Hown3.flat (S':=fun _=>False) (fun _ _ _ _ h=>h);have hnewg:∀b,(Value.slice A3 o.fields.length c3).ownBlock=some b→wr.heap.size≤b:=fun b hb'=>(ho3.lt hb').2;go_roundw
    case rel=>
     refine⟨k+1,vs.set k (.slice A3 o.fields.length c3),by omega,by go_num,⟨by simp[Hsep.len],?_,?_,?_,?_⟩,?_,?_,hb4.setCell (by show w.heap.size≤g;omega) _,by simp only[World.setCell,Array.size_modify];omega⟩
     ·have h1:=kG (own_below (w:=wr.drew) Hsep.row hb3) (k*2+0) (.slice A3 o.fields.length c3);rw[←jG _ (oC vs os) (nA Ho.out Hu.out) (by omega)] at h1;rw[rowsOf_set Ho.out];exact h1
     ·intro i x y hi hx hy;by_cases hik:i=k
      ·subst hik;rw[List.getElem?_set_self (by rw[Hsep.len];exact hlt)] at hy;injection hy with hy
       subst hy;have:=Ho.symm.trans hx;injection this with this
       subst this;exact ho3.keep (by show w.heap.size+1+1≤wr.heap.size;omega) (fun b hb'=>Below.heap_setCell _ _ _ _ (by have:=hnewg b hb';show b≠g;omega)) (fun b _ h=>h.elim)
      ·rw[List.getElem?_set_ne (by omega)] at hy;have hd:=Hsep.done i x y (by omega) hx hy;obtain⟨css,hH,hrow,hsz'⟩:=hd;refine⟨css,hH.keep (fun b _ h=>h.elim),fH hrow (Nat.le_refl _) (fun b hb'=>?_),hsz'⟩;have hne:=own_ne Hsep.row hrow (by decide) (b:=g) rfl;exact(Below.heap_setCell _ _ _ _ (by show b≠g;intro e;exact hne (by rw[hb',e]))).trans (hb3.block b (dJ hrow hb').1)
     ·intro i x y hi hx hy;rw[List.getElem?_set_ne (by omega)] at hy;exact(Hsep.left i x y (by omega) hx hy).keep (by decide) (fun b hb' hS=>⟨hS,(Below.heap_setCell _ _ _ _ (by have:=hS.2;show b≠g;omega)).trans (hb3.block b hb')⟩)
     ·intro i j y y' b hi hj hij hy hy' hyb hyb';by_cases hik:i=k
      ·subst hik;rw[List.getElem?_set_self (by rw[Hsep.len];exact hlt)] at hy;injection hy with hy
       subst hy;rw[List.getElem?_set_ne hij] at hy';have hx:os[j]?=some (os[j]'(by omega)):=zD _;have:=(Hsep.done j _ y' (by omega) hx hy').lt hyb';have:=hnewg b hyb;omega
      ·rw[List.getElem?_set_ne (by omega)] at hy;by_cases hjk:j=k
       ·subst hjk;rw[List.getElem?_set_self (by rw[Hsep.len];exact hlt)] at hy';injection hy' with hy'
        subst hy';have hx:os[i]?=some (os[i]'(by omega)):=zD _;have:=(Hsep.done i _ y (by omega) hx hy).lt hyb;have:=hnewg b hyb';omega
       ·rw[List.getElem?_set_ne (by omega)] at hy';exact Hsep.apart i j y y' b (by omega) (by omega) hij hy hy' hyb hyb'
     ·exact(Below.heap_setCell _ _ _ _ (by show w.heap.size≠g;omega)).trans ((hb3.block _ (by simp;omega)).trans Hq0.out)
     ·exact(Below.heap_setCell _ _ _ _ (by show w.heap.size+1≠g;omega)).trans ((hb3.block _ (by simp;omega)).trans Hq1.out)
    case measure=>simp[intOf];omega
  ·have hkk:k=os.length:=(by omega);subst hkk;have k0:wr.cell? ⟨w.heap.size,0,none⟩=some (.int .i64 m):=cell_of_row wr _ 0 _ _ _ hq0;have k1:wr.cell? ⟨w.heap.size,1,none⟩=some (.slice A1 os.length c1):=cell_of_row wr _ 1 _ _ _ hq0;have k2:wr.cell? ⟨w.heap.size+1,0,none⟩=some (.int .i64 0):=cell_of_row wr _ 0 _ _ _ hq1;have k3:wr.cell? ⟨w.heap.size+1,1,none⟩=some (.slice none 0 0):=cell_of_row wr _ 1 _ _ _ hq1;have f2:wr.frozen? ⟨w.heap.size+1,0,none⟩=false:=(by simp[World.frozen?,hq1]);have f3:wr.frozen? ⟨w.heap.size+1,1,none⟩=false:=(by simp[World.frozen?,hq1]);have hq4:((wr.setCell ⟨w.heap.size+1,0,none⟩ (.int .i64 m)).setCell ⟨w.heap.size+1,1,none⟩ (.slice A1 os.length c1)).heap[w.heap.size+1]?=some (.cells #[.int .i64 m,.slice A1 os.length c1] 36 (0,0)):=jK (jK hq1 _) _;have r0:=cell_of_row _ _ 0 _ _ _ hq4;have r1:=cell_of_row _ _ 1 _ _ _ hq4;have R0:=zG r0;have R1:=zG r1;have hfar:∀b,w.heap.size+1+1≤b→((wr.setCell ⟨w.heap.size+1,0,none⟩ (.int .i64 m)).setCell ⟨w.heap.size+1,1,none⟩ (.slice A1 os.length c1)).heap[b]?=wr.heap[b]?:=fun b hb'=>
    (Below.heap_setCell _ _ _ _ (by show b≠w.heap.size+1;omega)).trans (Below.heap_setCell _ _ _ _ (by show b≠w.heap.size+1;omega))
   have Hfar:=zG hfar;have Hsep:=zG hsep;clear hsep hq0 hq1 hq4 r0 r1 hfar;go_wp2
   refine bodyPost_ret (v:= .agg #[.int .i64 m,.slice A1 os.length c1]) (by simp[results,Tryd.results55,go_sem,R0.out,R1.out]) rfl
    ⟨_,vs,rfl,⟨Hsep.len,fH Hsep.row (by omega) (fun b hb'=>Hfar.out b (dJ Hsep.row hb').2),fun i x y hi hx hy=>?_,fun i x y hi hx hy=>?_,Hsep.apart⟩,H3,(hb.setCell (by simp) _).setCell (by simp) _⟩
   ·have hd:=Hsep.done i x y hi hx hy;exact hd.keep (by omega) (fun b hb'=>Hfar.out b (hd.lt hb').2) (fun b _ h=>h.elim)
   ·have:=(zE.1 hx).1;omega
end
section
open Go.RowKit
theorem rowsOf_snoc {vs:List Value} {os:List Ob} (h:vs.length=os.length) (u:Value) (o:Ob):rowsOf (vs++[u]) (os++[o])=rowsOf vs os++[[u,.bool o.dead]]:=by
 simp[rowsOf,List.zipWith_append h]
theorem bZ {w:World} {base:Nat} {e:TypeId} {size:Nat} {v:Value} {n:Nat} {xs:List Value} (h:w.ownsRow base e size v n xs):∃A c,v= .slice A n c:=by
 rcases h.2 with⟨h,h0⟩|⟨g,cap,_,h,_⟩
 ·exact⟨none,0,by rw[h,h0]⟩
 ·exact⟨_,cap,h⟩
theorem gD.keep {w w':World} {S:Nat→Prop} {base base':Nat} {v:Value} {os:List Ob} {vs:List Value} (hb:base'≤base) (hk:∀b,base≤b→b<w.heap.size→w'.heap[b]?=w.heap[b]?)
  (h:gD w S base v os vs os.length):gD w' S base' v os vs os.length:=
 ⟨h.len,fH h.row hb (fun b hb'=>hk b (dJ h.row hb').2 (dJ h.row hb').1),
  fun i o u hi ho hu=>(h.done i o u hi ho hu).keep hb (fun b hb'=>hk b ((h.done i o u hi ho hu).lt hb').2 ((h.done i o u hi ho hu).lt hb').1) (fun _ _ h=>h.elim),
  fun i o u hi ho _=>by have:=(zE.1 ho).1;omega,h.apart⟩
theorem gD.snoc {w w2:World} {base:Nat} {v v':Value} {os:List Ob} {vs:List Value} {o:Ob} {u:Value} (h:gD w (fun _=>False) base v os vs os.length)
  (hrow:w2.ownsRow base 96 2 v' (os.length+1) ((rowsOf vs os).flatten++[u,.bool o.dead]))
  (hk:∀b,b<w.heap.size→v.ownBlock≠some b→w2.heap[b]?=w.heap[b]?)
  (hu:dQ vE w2 (fun _=>False) base 47 u o.fields) (hn:∀b,u.ownBlock=some b→w.heap.size≤b):
  gD w2 (fun _=>False) base v' (os++[o]) (vs++[u]) (os++[o]).length:=by
 have hold:∀(i:Nat) (p:Ob) (z:Value),os[i]?=some p→vs[i]?=some z→dQ vE w2 (fun _=>False) base 47 z p.fields:=fun i p z hp hz=>by
  have hd:=h.done i p z (zE.1 hp).1 hp hz;refine hd.keep (Nat.le_refl _) (fun b hb=>hk b (hd.lt hb).1 ?_) (fun _ _ h=>h.elim);obtain⟨css,_,hr,_⟩:=hd;exact fun e=>own_ne h.row hr (by decide) (b:=b) e hb
 have hlen:=h.len;refine⟨by simp[h.len],?_,fun i p z hi hp hz=>?_,fun i p z hi hp _=>?_,fun i j z z' b hi hj hij hz hz' hb hb'=>?_⟩
 ·rw[rowsOf_snoc h.len];simpa using hrow
 ·rcases Nat.lt_or_ge i os.length with hl|hg
  ·rw[List.getElem?_append_left hl] at hp;rw[List.getElem?_append_left (by omega)] at hz;exact hold i p z hp hz
  ·have hi':i=os.length:=(by simp at hi;omega);subst hi';rw[List.getElem?_append_right (Nat.le_refl _)] at hp;rw[←hlen,List.getElem?_append_right (Nat.le_refl _)] at hz;simp at hp hz
   subst hp;subst hz;exact hu
 ·have:=(zE.1 hp).1;omega
 ·have key:∀(i j:Nat) (z z':Value) (b:Nat),i<(os++[o]).length→j<(os++[o]).length→i<j→(vs++[u])[i]?=some z→(vs++[u])[j]?=some z'→z.ownBlock=some b→z'.ownBlock≠some b:=by
   intro i j z z' b hi hj hij hz hz' hb hb';simp at hi hj
   rw[List.getElem?_append_left (by omega)] at hz;have hp:os[i]?=some (os[i]'(by omega)):=zD _;rcases Nat.lt_or_ge j os.length with hl|hg
   ·rw[List.getElem?_append_left (by omega)] at hz';exact h.apart i j z z' b (by omega) hl (by omega) hz hz' hb hb'
   ·have hj':j=vs.length:=(by omega);subst hj';rw[List.getElem?_append_right (Nat.le_refl _)] at hz';simp at hz'
    subst hz';have h1:=(h.done i _ z (by omega) hp hz).lt hb;have h2:=hn b hb';omega
  rcases Nat.lt_or_gt_of_ne hij with hl|hg
  ·exact key i j z z' b hi hj hl hz hz' hb hb'
  ·exact key j i z' z b hj hi hg hz' hz hb' hb
theorem gD.far {w:World} {S:Nat→Prop} {base:Nat} {v:Value} {os:List Ob} {vs:List Value} (h:gD w S base v os vs os.length) {a:Addr} (ha:a.block<base) (u:Value):gD (w.setCell a u) S base v os vs os.length:=
 h.keep (Nat.le_refl _) (fun b hb _=>Below.heap_setCell _ _ _ _ (by omega))
theorem own_type {w:World} {base:Nat} {e:TypeId} {size:Nat} {v:Value} {n:Nat} {xs:List Value} (h:w.ownsRow base e size v n xs) {b:Nat} (hv:v.ownBlock=some b):∃cs,w.heap[b]?=some (.cells cs e (0,0)):=by
 rcases h.2 with⟨rfl,_⟩|⟨g,cap,cur,rfl,_,hh,_⟩
 ·cases hv
 ·simp[Value.ownBlock] at hv
  subst hv;exact⟨_,hh⟩
theorem gD.off {w:World} {S:Nat→Prop} {base:Nat} {v:Value} {os:List Ob} {vs:List Value} (h:gD w S base v os vs os.length) {a:Addr} {cs:Array Value} {t:TypeId} {fr:Nat×Nat} (hb:w.heap[a.block]?=some (.cells cs t fr)) (h1:t≠96) (h2:t≠47) (u:Value):gD (w.setCell a u) S base v os vs os.length:=by
 have key:∀{e:TypeId} {size:Nat} {v':Value} {n:Nat} {xs:List Value},t≠e→w.ownsRow base e size v' n xs→∀b,v'.ownBlock=some b→(w.setCell a u).heap[b]?=w.heap[b]?:=fun {e size v' n xs} hne hr b hb'=>by
  refine Below.heap_setCell _ _ _ _ (fun heq=>?_);obtain⟨cs',hc⟩:=own_type hr hb';rw[heq,hb] at hc;injection hc with hc
  injection hc with _ ht
  exact hne ht
 refine⟨h.len,fH h.row (Nat.le_refl _) (key h1 h.row),fun i o z hi ho hz=>?_,fun i o z hi ho _=>?_,h.apart⟩
 ·have hd:=h.done i o z hi ho hz;refine hd.keep (Nat.le_refl _) (fun b hb'=>?_) (fun _ _ h=>h.elim);obtain⟨css,_,hr,_⟩:=hd;exact key h2 hr b hb'
 ·have:=(zE.1 ho).1;omega
theorem sep_none {w:World} {S:Nat→Prop} {base:Nat}:gD w S base (.slice none 0 0) [] [] 0:=
 ⟨rfl,⟨rfl,.inl ⟨rfl,rfl⟩⟩,fun i o u h=>by omega,fun i o u _ h=>by simp at h,fun i j u u' b h=>by omega⟩
end
section
open Go.RowKit
def ClonedT (w:World) (S:Nat→Prop) (xs:List Td) (en:Ending) (w':World):Prop:=∃v,en= .returned v∧dQ tdE w' S w.heap.size 70 v xs∧Below w.heap.size w w'
theorem infoT:(Tryd.prog.info? 70).map (fun i=>(i.zero,i.size,i.bytes))=some (some (.agg #[.int .i64 0,.int .i64 0]),2,16):=by kernel_rfl
set_option maxHeartbeats 1000000 in
theorem cloneT_any (S:Nat→Prop) (A:Option Addr) (c:Nat) (xs:List Td) (w:World) (hr:aj tdE w S (.slice A xs.length c) xs):
  Calls Tryd.prog 54 #[.slice A xs.length c] w (ClonedT w S xs):=by
 obtain⟨-,h1,h2,h3⟩:=hr.fw;obtain⟨i0,hi0,hz0,hz1,hz2⟩:=info_parts infoT;obtain⟨css,hH,hflat⟩:=hr.held;rcases A with _|ad
 ·have hx:xs= []:=by
   obtain⟨A',c',hv,_,_,_,h4⟩:=hr
   cases hv
   by_cases hne:xs= []
   ·exact hne
   ·obtain⟨b,o,hA,_⟩:=h4 hne
    cases hA
  subst hx;have he:∀W:World,Sem.run Tryd.prog (binOp BinOp.eql 29 (.slice none 0 c) (.slice none 0 0)) W= .ok (.bool true) W:=fun W=>Lib.run_eql_slice_nil W 29 70 none 0 c 0 0 Tryd.underlying29;clear hr hH hflat h1 h2 h3;go_enter Tryd.func54,Tryd.ntmps54
  go_wp2
  go_ret
  exact⟨_,rfl,⟨[],Held.nil,⟨rfl,.inl ⟨rfl,rfl⟩⟩,by simp⟩,Below.refl _ _⟩
 ·have he:∀W:World,Sem.run Tryd.prog (binOp BinOp.eql 29 (.slice (some ad) xs.length c) (.slice none 0 0)) W= .ok (.bool false) W:=fun W=>Lib.run_eql_slice_nil W 29 70 (some ad) xs.length c 0 0 Tryd.underlying29;have hb:∀b,b<w.heap.size→S b→S b∧(w.alloc (.cells #[] 70)).heap[b]?=w.heap[b]?:=fun b hb hS=>⟨hS,Below.heap_alloc _ _ _ hb⟩;have Hfl:=zG (hflat ad rfl);have HH:=zG hH;have Hb:=zG hb;have Hlen:=zG (nu hH.size);have Hl2:=zG hH.len;have hown:(w.alloc (.cells #[] 70)).ownsRow w.heap.size 70 2 (.slice (some ⟨w.heap.size,0,none⟩) 0 0) 0 []:=
   ⟨rfl,.inr ⟨w.heap.size,0,#[],rfl,Nat.le_refl _,heap_alloc_new w _,Nat.le_refl _,Nat.zero_le _,rfl,rfl⟩⟩
  have Hown:=zG hown;clear hr hH hflat hb hown;go_enter Tryd.func54,Tryd.ntmps54
  go_wp2_with (at_builtin;refine wpList_append_own _ rfl (.tmp 5) (.tmp 6) _ rfl w.heap.size 70 i0 _ 2 16 Tryd.underlying29 hi0 hz0 hz1 hz2 rfl (by omega) (.slice (some ⟨w.heap.size,0,none⟩) 0 0) 0 [] rfl Hown.out ad xs.length c css.flatten rfl ?c1 ?c2 ?c3 ?c4 ?c5 ?c6 ?next)
  case c1=>rw[Hlen.out,Hl2.out];rfl
  case c2=>
   intro j u hu;have:=Hfl.out j u hu;rw[←this];refine World.cell?_alloc_lt w _ _ ?_;have hne:w.cell? (ad.add j)≠none:=(by rw[this];simp);rcases Nat.lt_or_ge (ad.add j).block w.heap.size with hl|hg
   ·exact hl
   ·exact absurd (by simp[World.cell?,Array.getElem?_eq_none hg]) hne
  case c3=>exact HH.one
  case c4=>unfold maxLen;omega
  case c5=>have h4:xs.length*16≤140737488355328:=h3;omega
  case c6=>simp
  case next=>
   intro v' w' hown' hg _;have Hown':=zG hown';clear hown';go_wp2
   go_ret
   have hB:Below w.heap.size w w':=((Below.refl _ _).alloc (Nat.le_refl _) _).grown hg (by simp) (fun k hk=>by simp[Value.ownBlock] at hk;omega);exact⟨_,rfl,⟨css,HH.keep (fun b hb hS=>⟨hS,hB.block b hb⟩),(by simpa using Hown'.out:w'.ownsRow w.heap.size 70 2 v' xs.length css.flatten),h3⟩,hB⟩
end
end Go.Proofs.YtdmocjnjbihloaaDoor
