/- The walk of 'ProgramsBad': for every input the call returns true, and each argument reads behind it as it did: proved out of the walks. Condition: the row's own: the table of operators reads as the program's text lays it, which the card ties. -/
import Derived.Test.YtdmocjnjbihloaaDoorRegI
import Derived.Test.YtdmocjnjbihloaaDoorActNew
import Derived.Test.YtdmocjnjbihloaaDoorVerCheck
import Derived.Test.YtdmocjnjbihloaaDoorBytesC
import Derived.Test.YtdmocjnjbihloaaDoorConcatV
import Derived.Test.YtdmocjnjbihloaaDoorFacts
import Derived.Test.YtdmocjnjbihloaaDoorLaid
import Derived.Test.YtdmocjnjbihloaaDoorTie
import Derived.Test.YtdmocjnjbihloaaDoorCards
import Derived.SevenTiedAt
set_option maxRecDepth 100000
namespace Go.Proofs.YtdmocjnjbihloaaDoor.lawProgramsBad
open Go.ChangeShapes Go.WideShapes Go.ChangeAt Go.RowKit
set_option linter.unusedVariables false
inductive Fk where
 |eq (u:Value)
 |ln (l:List Ins)
 |sl (ps:List (List Ins))
 |pg (ps:List (List Ins))
 |od (qs:List (List (List Ins)))
def ppE:El (List (List Ins)):=slE pgE (by show 0<1;omega)
def Fk.holds:Fk→World→Value→Prop
 | .eq u,_,v=>v=u
 | .ln l,w,v=>∃A d,v= .slice A l.length d∧aj eQ w (fun _=>True) (.slice A l.length d) l
 | .sl ps,w,v=>∃A d,v= .slice A ps.length d∧aj pgE w (fun _=>True) (.slice A ps.length d) ps
 | .pg ps,w,v=>∃A d,v= .agg #[.slice A ps.length d]∧aj pgE w (fun _=>True) (.slice A ps.length d) ps
 | .od qs,w,v=>∃A d,v= .slice A qs.length d∧aj ppE w (fun _=>True) (.slice A qs.length d) qs
theorem Fk.stay {f:Fk} {w w':World} {v:Value} (hb:Below w.heap.size w w') (h:f.holds w v):f.holds w' v:=by
 cases f with
 |eq u=>exact h
 |ln l=>obtain⟨A,d,e,r⟩:=h;exact⟨A,d,e,r.below (by decide) hb⟩
 |sl ps=>obtain⟨A,d,e,r⟩:=h;exact⟨A,d,e,r.below (by show 0<1;omega) hb⟩
 |pg ps=>obtain⟨A,d,e,r⟩:=h;exact⟨A,d,e,r.below (by show 0<1;omega) hb⟩
 |od qs=>obtain⟨A,d,e,r⟩:=h;exact⟨A,d,e,r.below (by show 0<1;omega) hb⟩
theorem Fk.ln_lit {w:World} {cs:Array Value} {t:TypeId} (l:List Ins) (n:Nat) (hn:n=l.length) (hc:cs.toList=cat (ncs l)) (hl:l.length≤100):(Fk.ln l).holds (w.alloc (.cells cs t)) (.slice (some ⟨w.heap.size,0,none⟩) n n):=by
 subst hn;exact⟨_,_,rfl,rT (E:=eQ) (css:=ncs l) (heap_alloc_new w _) trivial (jN l) hc (by show l.length*32≤_;omega) (by unfold maxLen;omega) _ rfl⟩
theorem up_alloc {α:Type} {E:El α} {w:World} {v:Value} {xs:List α} (hE:0<E.size) (h:aj E w (fun _=>True) v xs) (o:Obj):aj E (w.alloc o) (fun _=>True) v xs:=h.below hE ((Below.refl _ _).alloc (Nat.le_refl _) _)
theorem Fk.sl_one {w:World} {t:TypeId} {l:List Ins} {A:Option Addr} {d n:Nat} (h:aj eQ w (fun _=>True) (.slice A l.length d) l) (hn:n=l.length):(Fk.sl [l]).holds (w.alloc (.cells #[.slice A n d] t)) (.slice (some ⟨w.heap.size,0,none⟩) 1 1):=by
 subst hn;exact⟨_,_,rfl,rT (E:=pgE) (css:=[[.slice A l.length d]]) (heap_alloc_new w _) trivial (Held.cons rfl ⟨_,rfl,up_alloc (by decide) h _⟩ Held.nil) rfl (by show 1*24≤140737488355328;decide) (by show 1≤maxLen;decide) 1 rfl⟩
theorem infoSl:(Tryd.prog.info? 59).map (fun i=>(i.zero,i.size,i.bytes))=some (some (.slice none 0 0),1,24):=by kernel_rfl
theorem infoIn9:(Tryd.prog.info? 58).map (fun i=>(i.zero,i.size,i.bytes))=some (some (.agg #[.int .i64 0,.int .i64 0,.int .i64 0,.int .i64 0]),4,32):=by kernel_rfl
theorem alike_sl9:Alike1 (Value.slice none 0 0).cells (.slice none 0 0):=⟨by decide,fun i h=>by
 have:i=0:=(by simp[Value.cells] at h;omega);subst this;rfl⟩
theorem alike_in9:Alike1 (Value.agg #[.int .i64 0,.int .i64 0,.int .i64 0,.int .i64 0]).cells (.int .i64 0):=⟨by decide,fun i h=>by
 simp[Value.cells] at h
 rcases (show i=0∨i=1∨i=2∨i=3 by omega) with rfl|rfl|rfl|rfl<;>rfl⟩
theorem rep_flat {α:Type} (c:List α):∀n:Nat,(List.replicate n c).flatten.length=n*c.length
 |0=>by simp
 |n+1=>by simp[List.replicate_succ,rep_flat c n,Nat.succ_mul];omega
theorem rep_one (u:Value):∀n:Nat,(List.replicate n [u]).flatten=List.replicate (n*1) u
 |0=>rfl
 |n+1=>by rw[List.replicate_succ,List.flatten_cons,rep_one u n,Nat.succ_mul,Nat.add_comm,←List.replicate_append_replicate];rfl
theorem rep_four (u:Value):∀n:Nat,(List.replicate n [u,u,u,u]).flatten=List.replicate (n*4) u
 |0=>rfl
 |n+1=>by rw[List.replicate_succ,List.flatten_cons,rep_four u n,Nat.succ_mul,Nat.add_comm,←List.replicate_append_replicate];rfl
theorem held_rep {α:Type} {E:El α} {w:World} {S:Nat→Prop} {c:List Value} {x:α} (hl:c.length=E.size) (hr:E.rd w S c x) (n:Nat):Held E w S (List.replicate n c) (List.replicate n x):=⟨by simp,fun i y cs hy hc=>by
 rw[List.getElem?_replicate] at hy hc;split at hy
 ·rename_i h
  rw[if_pos h] at hc;injection hy with hy
  injection hc with hc
  subst hy hc;exact⟨hl,hr⟩
 ·cases hy⟩
theorem Fk.sl_made {w:World} {base n c:Nat} {A:Option Addr} (h:w.ownsRow base 59 1 (.slice A n c) n (List.replicate (n*1) (.slice none 0 0))) (hm:n≤1000):(Fk.sl (List.replicate n [])).holds w (.slice A n c):=by
 have hl:(List.replicate n ([]:List Ins)).length=n:=(by simp);refine⟨A,c,by rw[hl],?_⟩;rw[hl];have:=dQ.rd (E:=pgE) (S:=fun _=>True) (w:=w) (base:=base) (e:=59) (v:= .slice A n c) (xs:=List.replicate n []) ⟨List.replicate n [.slice none 0 0],held_rep (E:=pgE) rfl ⟨_,rfl,aj.nil⟩ n,by rw[hl,rep_one];exact h,by rw[hl];show n*24≤_;omega⟩;exact this.keep (by show 0<1;omega) (fun _ _ _=>⟨trivial,rfl⟩)
theorem Fk.ln_made {w:World} {base n c:Nat} {A:Option Addr} (h:w.ownsRow base 58 4 (.slice A n c) n (List.replicate (n*4) (.int .i64 0))) (hm:n≤1000):(Fk.ln (List.replicate n ⟨0,0,0,0⟩)).holds w (.slice A n c):=by
 have hl:(List.replicate n (⟨0,0,0,0⟩:Ins)).length=n:=(by simp);refine⟨A,c,by rw[hl],?_⟩;rw[hl];have:=dQ.rd (E:=eQ) (S:=fun _=>True) (w:=w) (base:=base) (e:=58) (v:= .slice A n c) (xs:=List.replicate n ⟨0,0,0,0⟩) ⟨List.replicate n [.int .i64 0,.int .i64 0,.int .i64 0,.int .i64 0],held_rep rfl rfl n,by rw[hl,rep_four];exact h,by rw[hl];show n*32≤_;omega⟩;exact this.keep (by decide) (fun _ _ _=>⟨trivial,rfl⟩)
def oddQ (kk:Int):List (List (List Ins)):=[[],List.replicate (6+kk).toNat [],[[]],[[⟨19+kk,0,0,0⟩]],[[⟨15,7+kk,0,0⟩,⟨0,0,0,0⟩]],[[⟨18,0,1,0⟩,⟨0,0,0,0⟩]],[[⟨6,0,0,kk⟩]],[[⟨5,0,0,-1⟩,⟨0,0,0,0⟩]],[[⟨17,0,0,1⟩,⟨0,0,0,0⟩]],[[⟨1,0,0,0⟩]],[[⟨7,0,0,0⟩,⟨0,0,0,0⟩]],[List.replicate (60+kk).toNat ⟨0,0,0,0⟩]]
def errQ:List Int:=[6,1,1,3,2,4,2,2,2,5,2,1]
theorem odd_all:((List.range 50).all fun j=>(List.range 12).all fun i=>bT ((oddQ (1+(j:Int))).getD i [])==errQ.getD i 0)=true:=by kernel_rfl
theorem odd_at {q i:Nat} (hq:q<50) (hi:i<12):bT ((oddQ (1+(q:Int))).getD i [])=errQ.getD i 0∧errQ.getD i 0≠0:=by
 have h1:=List.all_eq_true.1 odd_all q (List.mem_range.2 hq);have h2:=List.all_eq_true.1 h1 i (List.mem_range.2 hi);refine⟨by simpa using h2,?_⟩;have:((List.range 12).all fun i=>errQ.getD i 0 !=0)=true:=(by decide);have h3:=List.all_eq_true.1 this i (List.mem_range.2 hi);simpa using h3
theorem Fk.od_lit {w:World} {t:TypeId} {kk:Int} {A0:Option Addr} {A1:Option Addr} {A2:Option Addr} {A3:Option Addr} {A4:Option Addr} {A5:Option Addr} {A6:Option Addr} {A7:Option Addr} {A8:Option Addr} {A9:Option Addr} {A10:Option Addr} {A11:Option Addr} {d0 d1 d2 d3 d4 d5 d6 d7 d8 d9 d10 d11:Nat}
  (h0:aj pgE w (fun _=>True) (.slice A0 0 d0) []) (h1:aj pgE w (fun _=>True) (.slice A1 (6+kk).toNat d1) (List.replicate (6+kk).toNat [])) (h2:aj pgE w (fun _=>True) (.slice A2 1 d2) ([[]])) (h3:aj pgE w (fun _=>True) (.slice A3 1 d3) ([[⟨19+kk,0,0,0⟩]])) (h4:aj pgE w (fun _=>True) (.slice A4 1 d4) ([[⟨15,7+kk,0,0⟩,⟨0,0,0,0⟩]])) (h5:aj pgE w (fun _=>True) (.slice A5 1 d5) ([[⟨18,0,1,0⟩,⟨0,0,0,0⟩]])) (h6:aj pgE w (fun _=>True) (.slice A6 1 d6) ([[⟨6,0,0,kk⟩]])) (h7:aj pgE w (fun _=>True) (.slice A7 1 d7) ([[⟨5,0,0,-1⟩,⟨0,0,0,0⟩]])) (h8:aj pgE w (fun _=>True) (.slice A8 1 d8) ([[⟨17,0,0,1⟩,⟨0,0,0,0⟩]])) (h9:aj pgE w (fun _=>True) (.slice A9 1 d9) ([[⟨1,0,0,0⟩]])) (h10:aj pgE w (fun _=>True) (.slice A10 1 d10) ([[⟨7,0,0,0⟩,⟨0,0,0,0⟩]])) (h11:aj pgE w (fun _=>True) (.slice A11 1 d11) ([List.replicate (60+kk).toNat ⟨0,0,0,0⟩])):(Fk.od (oddQ kk)).holds (w.alloc (.cells #[.slice A0 0 d0,.slice A1 (6+kk).toNat d1,.slice A2 1 d2,.slice A3 1 d3,.slice A4 1 d4,.slice A5 1 d5,.slice A6 1 d6,.slice A7 1 d7,.slice A8 1 d8,.slice A9 1 d9,.slice A10 1 d10,.slice A11 1 d11] t)) (.slice (some ⟨w.heap.size,0,none⟩) 12 12):=
 ⟨_,_,rfl,rT (E:=ppE) (css:=[[.slice A0 0 d0],[.slice A1 (6+kk).toNat d1],[.slice A2 1 d2],[.slice A3 1 d3],[.slice A4 1 d4],[.slice A5 1 d5],[.slice A6 1 d6],[.slice A7 1 d7],[.slice A8 1 d8],[.slice A9 1 d9],[.slice A10 1 d10],[.slice A11 1 d11]]) (heap_alloc_new w _) trivial (Held.cons (E:=ppE) rfl ⟨_,rfl,up_alloc (by show 0<1;omega) h0 _⟩ (Held.cons (E:=ppE) rfl ⟨_,rfl,up_alloc (by show 0<1;omega) h1 _⟩ (Held.cons (E:=ppE) rfl ⟨_,rfl,up_alloc (by show 0<1;omega) h2 _⟩ (Held.cons (E:=ppE) rfl ⟨_,rfl,up_alloc (by show 0<1;omega) h3 _⟩ (Held.cons (E:=ppE) rfl ⟨_,rfl,up_alloc (by show 0<1;omega) h4 _⟩ (Held.cons (E:=ppE) rfl ⟨_,rfl,up_alloc (by show 0<1;omega) h5 _⟩ (Held.cons (E:=ppE) rfl ⟨_,rfl,up_alloc (by show 0<1;omega) h6 _⟩ (Held.cons (E:=ppE) rfl ⟨_,rfl,up_alloc (by show 0<1;omega) h7 _⟩ (Held.cons (E:=ppE) rfl ⟨_,rfl,up_alloc (by show 0<1;omega) h8 _⟩ (Held.cons (E:=ppE) rfl ⟨_,rfl,up_alloc (by show 0<1;omega) h9 _⟩ (Held.cons (E:=ppE) rfl ⟨_,rfl,up_alloc (by show 0<1;omega) h10 _⟩ (Held.cons (E:=ppE) rfl ⟨_,rfl,up_alloc (by show 0<1;omega) h11 _⟩ Held.nil)))))))))))) rfl (by show 12*24≤140737488355328;decide) (by show 12≤maxLen;decide) 12 rfl⟩
def fks (kk:Int):List Fk:=[.pg ([]),.eq (.int .i64 kk),.eq (.int .i64 (6+kk)),.sl (List.replicate (6+kk).toNat []),.pg (List.replicate (6+kk).toNat []),.sl ([[]]),.pg ([[]]),.eq (.int .i64 kk),.eq (.int .i64 (19+kk)),.eq (.agg #[.int .i64 (19+kk),.int .i64 0,.int .i64 0,.int .i64 0]),.ln ([⟨19+kk,0,0,0⟩]),.sl ([[⟨19+kk,0,0,0⟩]]),.pg ([[⟨19+kk,0,0,0⟩]]),.eq (.int .i64 kk),.eq (.int .i64 (7+kk)),.eq (.agg #[.int .i64 15,.int .i64 (7+kk),.int .i64 0,.int .i64 0]),.eq (.agg #[.int .i64 0,.int .i64 0,.int .i64 0,.int .i64 0]),.ln ([⟨15,7+kk,0,0⟩,⟨0,0,0,0⟩]),.sl ([[⟨15,7+kk,0,0⟩,⟨0,0,0,0⟩]]),.pg ([[⟨15,7+kk,0,0⟩,⟨0,0,0,0⟩]]),.eq (.agg #[.int .i64 18,.int .i64 0,.int .i64 1,.int .i64 0]),.eq (.agg #[.int .i64 0,.int .i64 0,.int .i64 0,.int .i64 0]),.ln ([⟨18,0,1,0⟩,⟨0,0,0,0⟩]),.sl ([[⟨18,0,1,0⟩,⟨0,0,0,0⟩]]),.pg ([[⟨18,0,1,0⟩,⟨0,0,0,0⟩]]),.eq (.int .i64 kk),.eq (.agg #[.int .i64 6,.int .i64 0,.int .i64 0,.int .i64 kk]),.ln ([⟨6,0,0,kk⟩]),.sl ([[⟨6,0,0,kk⟩]]),.pg ([[⟨6,0,0,kk⟩]]),.eq (.agg #[.int .i64 5,.int .i64 0,.int .i64 0,.int .i64 (-1)]),.eq (.agg #[.int .i64 0,.int .i64 0,.int .i64 0,.int .i64 0]),.ln ([⟨5,0,0,-1⟩,⟨0,0,0,0⟩]),.sl ([[⟨5,0,0,-1⟩,⟨0,0,0,0⟩]]),.pg ([[⟨5,0,0,-1⟩,⟨0,0,0,0⟩]]),.eq (.agg #[.int .i64 17,.int .i64 0,.int .i64 0,.int .i64 1]),.eq (.agg #[.int .i64 0,.int .i64 0,.int .i64 0,.int .i64 0]),.ln ([⟨17,0,0,1⟩,⟨0,0,0,0⟩]),.sl ([[⟨17,0,0,1⟩,⟨0,0,0,0⟩]]),.pg ([[⟨17,0,0,1⟩,⟨0,0,0,0⟩]]),.eq (.agg #[.int .i64 1,.int .i64 0,.int .i64 0,.int .i64 0]),.ln ([⟨1,0,0,0⟩]),.sl ([[⟨1,0,0,0⟩]]),.pg ([[⟨1,0,0,0⟩]]),.eq (.agg #[.int .i64 7,.int .i64 0,.int .i64 0,.int .i64 0]),.eq (.agg #[.int .i64 0,.int .i64 0,.int .i64 0,.int .i64 0]),.ln ([⟨7,0,0,0⟩,⟨0,0,0,0⟩]),.sl ([[⟨7,0,0,0⟩,⟨0,0,0,0⟩]]),.pg ([[⟨7,0,0,0⟩,⟨0,0,0,0⟩]]),.eq (.int .i64 kk),.eq (.int .i64 (60+kk)),.ln (List.replicate (60+kk).toNat ⟨0,0,0,0⟩),.sl ([List.replicate (60+kk).toNat ⟨0,0,0,0⟩]),.pg ([List.replicate (60+kk).toNat ⟨0,0,0,0⟩]),.od (oddQ kk),.od (oddQ kk)]
set_option maxRecDepth 100000 in
set_option maxHeartbeats 16000000 in
theorem walk (w:World) (which:Int) (hw: -9223372036854775808≤which∧which≤9223372036854775807) (n:Int) (hn: -9223372036854775808≤n∧n≤9223372036854775807) (hu:dV w):
  Calls Tryd.prog 5 #[.int .i64 which,.int .i64 n] w fun e w'=>e= .returned (.bool true)∧Below w.heap.size w w':=by
 have Hu:=zG hu;have hkl:=jk n 50 (by omega);have hil:=jk which 12 (by omega);have Gk:=zG (fun W=>iA n 50 hn.1 hn.2 (by omega) (by omega) W);have Gi:=zG (fun W=>iA which 12 hw.1 hw.2 (by omega) (by omega) W);generalize bI n 50=q1 at*;generalize bI which 12=q2 at*;obtain⟨q,rfl⟩:=Int.eq_ofNat_of_zero_le hkl.1;obtain⟨i,rfl⟩:=Int.eq_ofNat_of_zero_le hil.1;have hq:q<50:=(by omega);have hi:i<12:=(by omega);obtain⟨hpf,hne⟩:=odd_at hq hi;clear hu hn hw hkl hil;have T0:St w.heap.size w w []:=St.start w (Nat.le_refl _);have HT:=zG T0;have hz:w.heap.size≤w.heap.size:=(by simp);clear T0;go_enter Tryd.func5,Tryd.ntmps5
 go_upto_region 1 with fail;go_wp2_with fail;refine(Gk.out _).mono ?_;rintro en W' ⟨rfl,rfl⟩;go_upto_region 3 with fail;replace HT:=sp0 (HT.new' #[.int .i64 0,.int .i64 0,.int .i64 0,.int .i64 0] 58 w.heap.size);replace hz:=HT.zz hz;generalize (w.alloc (.cells #[.int .i64 0,.int .i64 0,.int .i64 0,.int .i64 0] 58))=W1 at*;clear Gk;have hkb:1≤1+(q:Int)∧1+(q:Int)≤50:=(by omega);generalize 1+(q:Int)=kk at*;clear hq;have kw6:IntKind.i64.wrap (6+kk)=6+kk:=(by rw[IntKind.wrap_i64];omega);have kw19:IntKind.i64.wrap (19+kk)=19+kk:=(by rw[IntKind.wrap_i64];omega);have kw7:IntKind.i64.wrap (7+kk)=7+kk:=(by rw[IntKind.wrap_i64];omega);have kw60:IntKind.i64.wrap (60+kk)=60+kk:=(by rw[IntKind.wrap_i64];omega);obtain⟨i1,hi1,hz1,hy1,hx1⟩:=info_parts infoSl;obtain⟨i2,hi2,hz2,hy2,hx2⟩:=info_parts infoIn9;have HDn:=zG (HT.heap 0 rfl);have hzd:w.heap.size<W1.heap.size:=(HT.in_ 0 rfl rfl).2;refine wp_region_tab (fun i w9 v=>((fks kk).getD i (.eq undef)).holds w9 v) 128 56 [21,22,23,24,25,26,27,28,29,30,31,32,33,34,35,36,37,38,39,40,41,42,43,44,45,46,47,48,49,50,51,52,53,54,55,56,57,58,59,60,61,62,63,64,65,66,67,68,69,70,71,72,73,74,75,7] [[],[],[1],[2],[3],[],[5],[],[7],[8],[9],[10],[11],[],[13],[14],[],[15,16],[17],[18],[],[],[20,21],[22],[23],[],[25],[26],[27],[28],[],[],[30,31],[32],[33],[],[],[35,36],[37],[38],[],[40],[41],[42],[],[],[44,45],[46],[47],[],[49],[50],[51],[52],[0,4,6,12,19,24,29,34,39,43,48,53],[54]] [0,1,2,3,4,5,6,7,8,9,10,11,12,13,14,15,16,17,18,19,20,21,22,23,24,25,26,27,28,29,30,31,32,33,34,35,36,37,38,39,40,41,42,43,44,45,46,47,48,49,50,51,52,53,54,55] (by kernel_rfl) (by kernel_rfl) (by kernel_rfl) (by kernel_rfl) (by kernel_rfl) rfl (fun _ _ _ _ hb h=>Fk.stay hb h) ?_ ?_
 ·refine allUp_step (k':=1) (m':=55) rfl rfl ?_ ?_
  ·intro vs w9 hb hn;show wpList _ _ _ (pick _ [0]) (setT _ vs [] _) w9
   clear hn;simp only[setT,pick,List.getElem?_toArray,List.getElem?_cons_zero];go_wp2_with fail;exact⟨_,rfl,rfl,⟨none,0,rfl,aj.nil⟩,Below.refl _ _⟩
  refine allUp_step (k':=2) (m':=54) rfl rfl ?_ ?_
  ·intro vs w9 hb hn;show wpList _ _ _ (pick _ [1]) (setT _ vs [] _) w9
   clear hn;simp only[setT,pick,List.getElem?_toArray,List.getElem?_cons_succ,List.getElem?_cons_zero];go_wp2_with fail;exact⟨_,rfl,rfl,rfl,Below.refl _ _⟩
  refine allUp_step (k':=3) (m':=53) rfl rfl ?_ ?_
  ·intro vs w9 hb hn;show wpList _ _ _ (pick _ [2]) (Act.put _ (some 22) (vs 1)) w9
   rw[show vs 1=_ from hn 1 (by decide)];clear hn;simp only[pick,List.getElem?_toArray,List.getElem?_cons_succ,List.getElem?_cons_zero,Act.put,zA,zC,zB];go_wp2_with fail;exact⟨_,rfl,rfl,rfl,Below.refl _ _⟩
  refine allUp_step (k':=4) (m':=52) rfl rfl ?_ ?_
  ·intro vs w9 hb hn;show wpList _ _ _ (pick _ [3]) (Act.put _ (some 23) (vs 2)) w9
   rw[show vs 2=_ from hn 2 (by decide)];clear hn;simp only[pick,List.getElem?_toArray,List.getElem?_cons_succ,List.getElem?_cons_zero,Act.put,zA,zC,zB];refine wpList_make_full _ rfl (.tmp 23) (.tmp 23) 24 rfl w9.heap.size 59 i1 _ 1 Tryd.underlying24 hi1 hz1 hy1 _ _ _ _ (6+kk).toNat rfl rfl (by omega) (by omega) (by rw[hx1];omega) (by unfold maxLen;omega) (Nat.le_refl _) ?next
   case next=>
    intro w8 hown hgr;go_wp2_with fail;exact⟨_,rfl,rfl,Fk.sl_made (base:=w9.heap.size) (kQ (m:=(6+kk).toNat*1) alike_sl9 hown) (by omega),(Below.refl _ _).grown hgr (Nat.le_refl _) (fun k hk=>by cases hk)⟩
  refine allUp_step (k':=5) (m':=51) rfl rfl ?_ ?_
  ·intro vs w9 hb hn;show wpList _ _ _ (pick _ [4]) (Act.put _ (some 24) (vs 3)) w9
   obtain⟨A3,d3,h3,r3⟩:=hn 3 (by decide);rw[h3];clear hn;simp only[pick,List.getElem?_toArray,List.getElem?_cons_succ,List.getElem?_cons_zero,Act.put,zA,zC,zB];go_wp2_with fail;exact⟨_,rfl,rfl,⟨_,_,(by first|rfl|simp),r3⟩,Below.refl _ _⟩
  refine allUp_step (k':=6) (m':=50) rfl rfl ?_ ?_
  ·intro vs w9 hb hn;show wpList _ _ _ (pick _ [5]) (setT _ vs [] _) w9
   clear hn;simp only[setT,pick,List.getElem?_toArray,List.getElem?_cons_succ,List.getElem?_cons_zero];go_wp2_with fail;exact⟨_,rfl,rfl,Fk.sl_one (l:=[]) aj.nil rfl,(Below.refl _ _).alloc (Nat.le_refl _) _⟩
  refine allUp_step (k':=7) (m':=49) rfl rfl ?_ ?_
  ·intro vs w9 hb hn;show wpList _ _ _ (pick _ [6]) (Act.put _ (some 26) (vs 5)) w9
   obtain⟨A5,d5,h5,r5⟩:=hn 5 (by decide);rw[h5];clear hn;simp only[pick,List.getElem?_toArray,List.getElem?_cons_succ,List.getElem?_cons_zero,Act.put,zA,zC,zB];go_wp2_with fail;exact⟨_,rfl,rfl,⟨_,_,(by first|rfl|simp),r5⟩,Below.refl _ _⟩
  refine allUp_step (k':=8) (m':=48) rfl rfl ?_ ?_
  ·intro vs w9 hb hn;show wpList _ _ _ (pick _ [7]) (setT _ vs [] _) w9
   clear hn;simp only[setT,pick,List.getElem?_toArray,List.getElem?_cons_succ,List.getElem?_cons_zero];go_wp2_with fail;exact⟨_,rfl,rfl,rfl,Below.refl _ _⟩
  refine allUp_step (k':=9) (m':=47) rfl rfl ?_ ?_
  ·intro vs w9 hb hn;show wpList _ _ _ (pick _ [8]) (Act.put _ (some 28) (vs 7)) w9
   rw[show vs 7=_ from hn 7 (by decide)];clear hn;simp only[pick,List.getElem?_toArray,List.getElem?_cons_succ,List.getElem?_cons_zero,Act.put,zA,zC,zB];go_wp2_with fail;exact⟨_,rfl,rfl,rfl,Below.refl _ _⟩
  refine allUp_step (k':=10) (m':=46) rfl rfl ?_ ?_
  ·intro vs w9 hb hn;show wpList _ _ _ (pick _ [9]) (Act.put _ (some 29) (vs 8)) w9
   rw[show vs 8=_ from hn 8 (by decide)];clear hn;simp only[pick,List.getElem?_toArray,List.getElem?_cons_succ,List.getElem?_cons_zero,Act.put,zA,zC,zB];go_wp2_with fail;exact⟨_,rfl,rfl,rfl,Below.refl _ _⟩
  refine allUp_step (k':=11) (m':=45) rfl rfl ?_ ?_
  ·intro vs w9 hb hn;show wpList _ _ _ (pick _ [10]) (Act.put _ (some 30) (vs 9)) w9
   rw[show vs 9=_ from hn 9 (by decide)];clear hn;simp only[pick,List.getElem?_toArray,List.getElem?_cons_succ,List.getElem?_cons_zero,Act.put,zA,zC,zB];go_wp2_with fail;exact⟨_,rfl,rfl,Fk.ln_lit [⟨19+kk,0,0,0⟩] 1 rfl rfl (by show 1≤100;omega),(Below.refl _ _).alloc (Nat.le_refl _) _⟩
  refine allUp_step (k':=12) (m':=44) rfl rfl ?_ ?_
  ·intro vs w9 hb hn;show wpList _ _ _ (pick _ [11]) (Act.put _ (some 31) (vs 10)) w9
   obtain⟨A10,d10,h10,r10⟩:=hn 10 (by decide);rw[h10];clear hn;simp only[pick,List.getElem?_toArray,List.getElem?_cons_succ,List.getElem?_cons_zero,Act.put,zA,zC,zB];go_wp2_with fail;exact⟨_,rfl,rfl,Fk.sl_one r10 (by first|rfl|simp),(Below.refl _ _).alloc (Nat.le_refl _) _⟩
  refine allUp_step (k':=13) (m':=43) rfl rfl ?_ ?_
  ·intro vs w9 hb hn;show wpList _ _ _ (pick _ [12]) (Act.put _ (some 32) (vs 11)) w9
   obtain⟨A11,d11,h11,r11⟩:=hn 11 (by decide);rw[h11];clear hn;simp only[pick,List.getElem?_toArray,List.getElem?_cons_succ,List.getElem?_cons_zero,Act.put,zA,zC,zB];go_wp2_with fail;exact⟨_,rfl,rfl,⟨_,_,(by first|rfl|simp),r11⟩,Below.refl _ _⟩
  refine allUp_step (k':=14) (m':=42) rfl rfl ?_ ?_
  ·intro vs w9 hb hn;show wpList _ _ _ (pick _ [13]) (setT _ vs [] _) w9
   clear hn;simp only[setT,pick,List.getElem?_toArray,List.getElem?_cons_succ,List.getElem?_cons_zero];go_wp2_with fail;exact⟨_,rfl,rfl,rfl,Below.refl _ _⟩
  refine allUp_step (k':=15) (m':=41) rfl rfl ?_ ?_
  ·intro vs w9 hb hn;show wpList _ _ _ (pick _ [14]) (Act.put _ (some 34) (vs 13)) w9
   rw[show vs 13=_ from hn 13 (by decide)];clear hn;simp only[pick,List.getElem?_toArray,List.getElem?_cons_succ,List.getElem?_cons_zero,Act.put,zA,zC,zB];go_wp2_with fail;exact⟨_,rfl,rfl,rfl,Below.refl _ _⟩
  refine allUp_step (k':=16) (m':=40) rfl rfl ?_ ?_
  ·intro vs w9 hb hn;show wpList _ _ _ (pick _ [15]) (Act.put _ (some 35) (vs 14)) w9
   rw[show vs 14=_ from hn 14 (by decide)];clear hn;simp only[pick,List.getElem?_toArray,List.getElem?_cons_succ,List.getElem?_cons_zero,Act.put,zA,zC,zB];go_wp2_with fail;exact⟨_,rfl,rfl,rfl,Below.refl _ _⟩
  refine allUp_step (k':=17) (m':=39) rfl rfl ?_ ?_
  ·intro vs w9 hb hn;show wpList _ _ _ (pick _ [16]) (setT _ vs [] _) w9
   clear hn;have hd9:w9.heap[w.heap.size]?=some (.cells #[.int .i64 0,.int .i64 0,.int .i64 0,.int .i64 0] 58 (0,0)):=(hb.block _ hzd).trans HDn.out;have e0:w9.cell? ⟨w.heap.size,0,none⟩=some (.int .i64 0):=(by rw[cell_of_row _ _ _ _ _ _ hd9];rfl);have e1:w9.cell? ⟨w.heap.size,1,none⟩=some (.int .i64 0):=(by rw[cell_of_row _ _ _ _ _ _ hd9];rfl);have e2:w9.cell? ⟨w.heap.size,2,none⟩=some (.int .i64 0):=(by rw[cell_of_row _ _ _ _ _ _ hd9];rfl);have e3:w9.cell? ⟨w.heap.size,3,none⟩=some (.int .i64 0):=(by rw[cell_of_row _ _ _ _ _ _ hd9];rfl);simp only[setT,pick,List.getElem?_toArray,List.getElem?_cons_succ,List.getElem?_cons_zero];go_wp2_with fail;exact⟨_,rfl,rfl,rfl,Below.refl _ _⟩
  refine allUp_step (k':=18) (m':=38) rfl rfl ?_ ?_
  ·intro vs w9 hb hn;show wpList _ _ _ (pick _ [17]) (Act.put (Act.put _ (some 36) (vs 15)) (some 37) (vs 16)) w9
   rw[show vs 15=_ from hn 15 (by decide)];rw[show vs 16=_ from hn 16 (by decide)];clear hn;simp only[pick,List.getElem?_toArray,List.getElem?_cons_succ,List.getElem?_cons_zero,Act.put,zA,zC,zB];go_wp2_with fail;exact⟨_,rfl,rfl,Fk.ln_lit [⟨15,7+kk,0,0⟩,⟨0,0,0,0⟩] 2 rfl rfl (by show 2≤100;omega),(Below.refl _ _).alloc (Nat.le_refl _) _⟩
  refine allUp_step (k':=19) (m':=37) rfl rfl ?_ ?_
  ·intro vs w9 hb hn;show wpList _ _ _ (pick _ [18]) (Act.put _ (some 38) (vs 17)) w9
   obtain⟨A17,d17,h17,r17⟩:=hn 17 (by decide);rw[h17];clear hn;simp only[pick,List.getElem?_toArray,List.getElem?_cons_succ,List.getElem?_cons_zero,Act.put,zA,zC,zB];go_wp2_with fail;exact⟨_,rfl,rfl,Fk.sl_one r17 (by first|rfl|simp),(Below.refl _ _).alloc (Nat.le_refl _) _⟩
  refine allUp_step (k':=20) (m':=36) rfl rfl ?_ ?_
  ·intro vs w9 hb hn;show wpList _ _ _ (pick _ [19]) (Act.put _ (some 39) (vs 18)) w9
   obtain⟨A18,d18,h18,r18⟩:=hn 18 (by decide);rw[h18];clear hn;simp only[pick,List.getElem?_toArray,List.getElem?_cons_succ,List.getElem?_cons_zero,Act.put,zA,zC,zB];go_wp2_with fail;exact⟨_,rfl,rfl,⟨_,_,(by first|rfl|simp),r18⟩,Below.refl _ _⟩
  refine allUp_step (k':=21) (m':=35) rfl rfl ?_ ?_
  ·intro vs w9 hb hn;show wpList _ _ _ (pick _ [20]) (setT _ vs [] _) w9
   clear hn;simp only[setT,pick,List.getElem?_toArray,List.getElem?_cons_succ,List.getElem?_cons_zero];go_wp2_with fail;exact⟨_,rfl,rfl,rfl,Below.refl _ _⟩
  refine allUp_step (k':=22) (m':=34) rfl rfl ?_ ?_
  ·intro vs w9 hb hn;show wpList _ _ _ (pick _ [21]) (setT _ vs [] _) w9
   clear hn;have hd9:w9.heap[w.heap.size]?=some (.cells #[.int .i64 0,.int .i64 0,.int .i64 0,.int .i64 0] 58 (0,0)):=(hb.block _ hzd).trans HDn.out;have e0:w9.cell? ⟨w.heap.size,0,none⟩=some (.int .i64 0):=(by rw[cell_of_row _ _ _ _ _ _ hd9];rfl);have e1:w9.cell? ⟨w.heap.size,1,none⟩=some (.int .i64 0):=(by rw[cell_of_row _ _ _ _ _ _ hd9];rfl);have e2:w9.cell? ⟨w.heap.size,2,none⟩=some (.int .i64 0):=(by rw[cell_of_row _ _ _ _ _ _ hd9];rfl);have e3:w9.cell? ⟨w.heap.size,3,none⟩=some (.int .i64 0):=(by rw[cell_of_row _ _ _ _ _ _ hd9];rfl);simp only[setT,pick,List.getElem?_toArray,List.getElem?_cons_succ,List.getElem?_cons_zero];go_wp2_with fail;exact⟨_,rfl,rfl,rfl,Below.refl _ _⟩
  refine allUp_step (k':=23) (m':=33) rfl rfl ?_ ?_
  ·intro vs w9 hb hn;show wpList _ _ _ (pick _ [22]) (Act.put (Act.put _ (some 41) (vs 20)) (some 42) (vs 21)) w9
   rw[show vs 20=_ from hn 20 (by decide)];rw[show vs 21=_ from hn 21 (by decide)];clear hn;simp only[pick,List.getElem?_toArray,List.getElem?_cons_succ,List.getElem?_cons_zero,Act.put,zA,zC,zB];go_wp2_with fail;exact⟨_,rfl,rfl,Fk.ln_lit [⟨18,0,1,0⟩,⟨0,0,0,0⟩] 2 rfl rfl (by show 2≤100;omega),(Below.refl _ _).alloc (Nat.le_refl _) _⟩
  refine allUp_step (k':=24) (m':=32) rfl rfl ?_ ?_
  ·intro vs w9 hb hn;show wpList _ _ _ (pick _ [23]) (Act.put _ (some 43) (vs 22)) w9
   obtain⟨A22,d22,h22,r22⟩:=hn 22 (by decide);rw[h22];clear hn;simp only[pick,List.getElem?_toArray,List.getElem?_cons_succ,List.getElem?_cons_zero,Act.put,zA,zC,zB];go_wp2_with fail;exact⟨_,rfl,rfl,Fk.sl_one r22 (by first|rfl|simp),(Below.refl _ _).alloc (Nat.le_refl _) _⟩
  refine allUp_step (k':=25) (m':=31) rfl rfl ?_ ?_
  ·intro vs w9 hb hn;show wpList _ _ _ (pick _ [24]) (Act.put _ (some 44) (vs 23)) w9
   obtain⟨A23,d23,h23,r23⟩:=hn 23 (by decide);rw[h23];clear hn;simp only[pick,List.getElem?_toArray,List.getElem?_cons_succ,List.getElem?_cons_zero,Act.put,zA,zC,zB];go_wp2_with fail;exact⟨_,rfl,rfl,⟨_,_,(by first|rfl|simp),r23⟩,Below.refl _ _⟩
  refine allUp_step (k':=26) (m':=30) rfl rfl ?_ ?_
  ·intro vs w9 hb hn;show wpList _ _ _ (pick _ [25]) (setT _ vs [] _) w9
   clear hn;simp only[setT,pick,List.getElem?_toArray,List.getElem?_cons_succ,List.getElem?_cons_zero];go_wp2_with fail;exact⟨_,rfl,rfl,rfl,Below.refl _ _⟩
  refine allUp_step (k':=27) (m':=29) rfl rfl ?_ ?_
  ·intro vs w9 hb hn;show wpList _ _ _ (pick _ [26]) (Act.put _ (some 46) (vs 25)) w9
   rw[show vs 25=_ from hn 25 (by decide)];clear hn;simp only[pick,List.getElem?_toArray,List.getElem?_cons_succ,List.getElem?_cons_zero,Act.put,zA,zC,zB];go_wp2_with fail;exact⟨_,rfl,rfl,rfl,Below.refl _ _⟩
  refine allUp_step (k':=28) (m':=28) rfl rfl ?_ ?_
  ·intro vs w9 hb hn;show wpList _ _ _ (pick _ [27]) (Act.put _ (some 47) (vs 26)) w9
   rw[show vs 26=_ from hn 26 (by decide)];clear hn;simp only[pick,List.getElem?_toArray,List.getElem?_cons_succ,List.getElem?_cons_zero,Act.put,zA,zC,zB];go_wp2_with fail;exact⟨_,rfl,rfl,Fk.ln_lit [⟨6,0,0,kk⟩] 1 rfl rfl (by show 1≤100;omega),(Below.refl _ _).alloc (Nat.le_refl _) _⟩
  refine allUp_step (k':=29) (m':=27) rfl rfl ?_ ?_
  ·intro vs w9 hb hn;show wpList _ _ _ (pick _ [28]) (Act.put _ (some 48) (vs 27)) w9
   obtain⟨A27,d27,h27,r27⟩:=hn 27 (by decide);rw[h27];clear hn;simp only[pick,List.getElem?_toArray,List.getElem?_cons_succ,List.getElem?_cons_zero,Act.put,zA,zC,zB];go_wp2_with fail;exact⟨_,rfl,rfl,Fk.sl_one r27 (by first|rfl|simp),(Below.refl _ _).alloc (Nat.le_refl _) _⟩
  refine allUp_step (k':=30) (m':=26) rfl rfl ?_ ?_
  ·intro vs w9 hb hn;show wpList _ _ _ (pick _ [29]) (Act.put _ (some 49) (vs 28)) w9
   obtain⟨A28,d28,h28,r28⟩:=hn 28 (by decide);rw[h28];clear hn;simp only[pick,List.getElem?_toArray,List.getElem?_cons_succ,List.getElem?_cons_zero,Act.put,zA,zC,zB];go_wp2_with fail;exact⟨_,rfl,rfl,⟨_,_,(by first|rfl|simp),r28⟩,Below.refl _ _⟩
  refine allUp_step (k':=31) (m':=25) rfl rfl ?_ ?_
  ·intro vs w9 hb hn;show wpList _ _ _ (pick _ [30]) (setT _ vs [] _) w9
   clear hn;simp only[setT,pick,List.getElem?_toArray,List.getElem?_cons_succ,List.getElem?_cons_zero];go_wp2_with fail;exact⟨_,rfl,rfl,rfl,Below.refl _ _⟩
  refine allUp_step (k':=32) (m':=24) rfl rfl ?_ ?_
  ·intro vs w9 hb hn;show wpList _ _ _ (pick _ [31]) (setT _ vs [] _) w9
   clear hn;have hd9:w9.heap[w.heap.size]?=some (.cells #[.int .i64 0,.int .i64 0,.int .i64 0,.int .i64 0] 58 (0,0)):=(hb.block _ hzd).trans HDn.out;have e0:w9.cell? ⟨w.heap.size,0,none⟩=some (.int .i64 0):=(by rw[cell_of_row _ _ _ _ _ _ hd9];rfl);have e1:w9.cell? ⟨w.heap.size,1,none⟩=some (.int .i64 0):=(by rw[cell_of_row _ _ _ _ _ _ hd9];rfl);have e2:w9.cell? ⟨w.heap.size,2,none⟩=some (.int .i64 0):=(by rw[cell_of_row _ _ _ _ _ _ hd9];rfl);have e3:w9.cell? ⟨w.heap.size,3,none⟩=some (.int .i64 0):=(by rw[cell_of_row _ _ _ _ _ _ hd9];rfl);simp only[setT,pick,List.getElem?_toArray,List.getElem?_cons_succ,List.getElem?_cons_zero];go_wp2_with fail;exact⟨_,rfl,rfl,rfl,Below.refl _ _⟩
  refine allUp_step (k':=33) (m':=23) rfl rfl ?_ ?_
  ·intro vs w9 hb hn;show wpList _ _ _ (pick _ [32]) (Act.put (Act.put _ (some 51) (vs 30)) (some 52) (vs 31)) w9
   rw[show vs 30=_ from hn 30 (by decide)];rw[show vs 31=_ from hn 31 (by decide)];clear hn;simp only[pick,List.getElem?_toArray,List.getElem?_cons_succ,List.getElem?_cons_zero,Act.put,zA,zC,zB];go_wp2_with fail;exact⟨_,rfl,rfl,Fk.ln_lit [⟨5,0,0,-1⟩,⟨0,0,0,0⟩] 2 rfl rfl (by show 2≤100;omega),(Below.refl _ _).alloc (Nat.le_refl _) _⟩
  refine allUp_step (k':=34) (m':=22) rfl rfl ?_ ?_
  ·intro vs w9 hb hn;show wpList _ _ _ (pick _ [33]) (Act.put _ (some 53) (vs 32)) w9
   obtain⟨A32,d32,h32,r32⟩:=hn 32 (by decide);rw[h32];clear hn;simp only[pick,List.getElem?_toArray,List.getElem?_cons_succ,List.getElem?_cons_zero,Act.put,zA,zC,zB];go_wp2_with fail;exact⟨_,rfl,rfl,Fk.sl_one r32 (by first|rfl|simp),(Below.refl _ _).alloc (Nat.le_refl _) _⟩
  refine allUp_step (k':=35) (m':=21) rfl rfl ?_ ?_
  ·intro vs w9 hb hn;show wpList _ _ _ (pick _ [34]) (Act.put _ (some 54) (vs 33)) w9
   obtain⟨A33,d33,h33,r33⟩:=hn 33 (by decide);rw[h33];clear hn;simp only[pick,List.getElem?_toArray,List.getElem?_cons_succ,List.getElem?_cons_zero,Act.put,zA,zC,zB];go_wp2_with fail;exact⟨_,rfl,rfl,⟨_,_,(by first|rfl|simp),r33⟩,Below.refl _ _⟩
  refine allUp_step (k':=36) (m':=20) rfl rfl ?_ ?_
  ·intro vs w9 hb hn;show wpList _ _ _ (pick _ [35]) (setT _ vs [] _) w9
   clear hn;simp only[setT,pick,List.getElem?_toArray,List.getElem?_cons_succ,List.getElem?_cons_zero];go_wp2_with fail;exact⟨_,rfl,rfl,rfl,Below.refl _ _⟩
  refine allUp_step (k':=37) (m':=19) rfl rfl ?_ ?_
  ·intro vs w9 hb hn;show wpList _ _ _ (pick _ [36]) (setT _ vs [] _) w9
   clear hn;have hd9:w9.heap[w.heap.size]?=some (.cells #[.int .i64 0,.int .i64 0,.int .i64 0,.int .i64 0] 58 (0,0)):=(hb.block _ hzd).trans HDn.out;have e0:w9.cell? ⟨w.heap.size,0,none⟩=some (.int .i64 0):=(by rw[cell_of_row _ _ _ _ _ _ hd9];rfl);have e1:w9.cell? ⟨w.heap.size,1,none⟩=some (.int .i64 0):=(by rw[cell_of_row _ _ _ _ _ _ hd9];rfl);have e2:w9.cell? ⟨w.heap.size,2,none⟩=some (.int .i64 0):=(by rw[cell_of_row _ _ _ _ _ _ hd9];rfl);have e3:w9.cell? ⟨w.heap.size,3,none⟩=some (.int .i64 0):=(by rw[cell_of_row _ _ _ _ _ _ hd9];rfl);simp only[setT,pick,List.getElem?_toArray,List.getElem?_cons_succ,List.getElem?_cons_zero];go_wp2_with fail;exact⟨_,rfl,rfl,rfl,Below.refl _ _⟩
  refine allUp_step (k':=38) (m':=18) rfl rfl ?_ ?_
  ·intro vs w9 hb hn;show wpList _ _ _ (pick _ [37]) (Act.put (Act.put _ (some 56) (vs 35)) (some 57) (vs 36)) w9
   rw[show vs 35=_ from hn 35 (by decide)];rw[show vs 36=_ from hn 36 (by decide)];clear hn;simp only[pick,List.getElem?_toArray,List.getElem?_cons_succ,List.getElem?_cons_zero,Act.put,zA,zC,zB];go_wp2_with fail;exact⟨_,rfl,rfl,Fk.ln_lit [⟨17,0,0,1⟩,⟨0,0,0,0⟩] 2 rfl rfl (by show 2≤100;omega),(Below.refl _ _).alloc (Nat.le_refl _) _⟩
  refine allUp_step (k':=39) (m':=17) rfl rfl ?_ ?_
  ·intro vs w9 hb hn;show wpList _ _ _ (pick _ [38]) (Act.put _ (some 58) (vs 37)) w9
   obtain⟨A37,d37,h37,r37⟩:=hn 37 (by decide);rw[h37];clear hn;simp only[pick,List.getElem?_toArray,List.getElem?_cons_succ,List.getElem?_cons_zero,Act.put,zA,zC,zB];go_wp2_with fail;exact⟨_,rfl,rfl,Fk.sl_one r37 (by first|rfl|simp),(Below.refl _ _).alloc (Nat.le_refl _) _⟩
  refine allUp_step (k':=40) (m':=16) rfl rfl ?_ ?_
  ·intro vs w9 hb hn;show wpList _ _ _ (pick _ [39]) (Act.put _ (some 59) (vs 38)) w9
   obtain⟨A38,d38,h38,r38⟩:=hn 38 (by decide);rw[h38];clear hn;simp only[pick,List.getElem?_toArray,List.getElem?_cons_succ,List.getElem?_cons_zero,Act.put,zA,zC,zB];go_wp2_with fail;exact⟨_,rfl,rfl,⟨_,_,(by first|rfl|simp),r38⟩,Below.refl _ _⟩
  refine allUp_step (k':=41) (m':=15) rfl rfl ?_ ?_
  ·intro vs w9 hb hn;show wpList _ _ _ (pick _ [40]) (setT _ vs [] _) w9
   clear hn;simp only[setT,pick,List.getElem?_toArray,List.getElem?_cons_succ,List.getElem?_cons_zero];go_wp2_with fail;exact⟨_,rfl,rfl,rfl,Below.refl _ _⟩
  refine allUp_step (k':=42) (m':=14) rfl rfl ?_ ?_
  ·intro vs w9 hb hn;show wpList _ _ _ (pick _ [41]) (Act.put _ (some 61) (vs 40)) w9
   rw[show vs 40=_ from hn 40 (by decide)];clear hn;simp only[pick,List.getElem?_toArray,List.getElem?_cons_succ,List.getElem?_cons_zero,Act.put,zA,zC,zB];go_wp2_with fail;exact⟨_,rfl,rfl,Fk.ln_lit [⟨1,0,0,0⟩] 1 rfl rfl (by show 1≤100;omega),(Below.refl _ _).alloc (Nat.le_refl _) _⟩
  refine allUp_step (k':=43) (m':=13) rfl rfl ?_ ?_
  ·intro vs w9 hb hn;show wpList _ _ _ (pick _ [42]) (Act.put _ (some 62) (vs 41)) w9
   obtain⟨A41,d41,h41,r41⟩:=hn 41 (by decide);rw[h41];clear hn;simp only[pick,List.getElem?_toArray,List.getElem?_cons_succ,List.getElem?_cons_zero,Act.put,zA,zC,zB];go_wp2_with fail;exact⟨_,rfl,rfl,Fk.sl_one r41 (by first|rfl|simp),(Below.refl _ _).alloc (Nat.le_refl _) _⟩
  refine allUp_step (k':=44) (m':=12) rfl rfl ?_ ?_
  ·intro vs w9 hb hn;show wpList _ _ _ (pick _ [43]) (Act.put _ (some 63) (vs 42)) w9
   obtain⟨A42,d42,h42,r42⟩:=hn 42 (by decide);rw[h42];clear hn;simp only[pick,List.getElem?_toArray,List.getElem?_cons_succ,List.getElem?_cons_zero,Act.put,zA,zC,zB];go_wp2_with fail;exact⟨_,rfl,rfl,⟨_,_,(by first|rfl|simp),r42⟩,Below.refl _ _⟩
  refine allUp_step (k':=45) (m':=11) rfl rfl ?_ ?_
  ·intro vs w9 hb hn;show wpList _ _ _ (pick _ [44]) (setT _ vs [] _) w9
   clear hn;simp only[setT,pick,List.getElem?_toArray,List.getElem?_cons_succ,List.getElem?_cons_zero];go_wp2_with fail;exact⟨_,rfl,rfl,rfl,Below.refl _ _⟩
  refine allUp_step (k':=46) (m':=10) rfl rfl ?_ ?_
  ·intro vs w9 hb hn;show wpList _ _ _ (pick _ [45]) (setT _ vs [] _) w9
   clear hn;have hd9:w9.heap[w.heap.size]?=some (.cells #[.int .i64 0,.int .i64 0,.int .i64 0,.int .i64 0] 58 (0,0)):=(hb.block _ hzd).trans HDn.out;have e0:w9.cell? ⟨w.heap.size,0,none⟩=some (.int .i64 0):=(by rw[cell_of_row _ _ _ _ _ _ hd9];rfl);have e1:w9.cell? ⟨w.heap.size,1,none⟩=some (.int .i64 0):=(by rw[cell_of_row _ _ _ _ _ _ hd9];rfl);have e2:w9.cell? ⟨w.heap.size,2,none⟩=some (.int .i64 0):=(by rw[cell_of_row _ _ _ _ _ _ hd9];rfl);have e3:w9.cell? ⟨w.heap.size,3,none⟩=some (.int .i64 0):=(by rw[cell_of_row _ _ _ _ _ _ hd9];rfl);simp only[setT,pick,List.getElem?_toArray,List.getElem?_cons_succ,List.getElem?_cons_zero];go_wp2_with fail;exact⟨_,rfl,rfl,rfl,Below.refl _ _⟩
  refine allUp_step (k':=47) (m':=9) rfl rfl ?_ ?_
  ·intro vs w9 hb hn;show wpList _ _ _ (pick _ [46]) (Act.put (Act.put _ (some 65) (vs 44)) (some 66) (vs 45)) w9
   rw[show vs 44=_ from hn 44 (by decide)];rw[show vs 45=_ from hn 45 (by decide)];clear hn;simp only[pick,List.getElem?_toArray,List.getElem?_cons_succ,List.getElem?_cons_zero,Act.put,zA,zC,zB];go_wp2_with fail;exact⟨_,rfl,rfl,Fk.ln_lit [⟨7,0,0,0⟩,⟨0,0,0,0⟩] 2 rfl rfl (by show 2≤100;omega),(Below.refl _ _).alloc (Nat.le_refl _) _⟩
  refine allUp_step (k':=48) (m':=8) rfl rfl ?_ ?_
  ·intro vs w9 hb hn;show wpList _ _ _ (pick _ [47]) (Act.put _ (some 67) (vs 46)) w9
   obtain⟨A46,d46,h46,r46⟩:=hn 46 (by decide);rw[h46];clear hn;simp only[pick,List.getElem?_toArray,List.getElem?_cons_succ,List.getElem?_cons_zero,Act.put,zA,zC,zB];go_wp2_with fail;exact⟨_,rfl,rfl,Fk.sl_one r46 (by first|rfl|simp),(Below.refl _ _).alloc (Nat.le_refl _) _⟩
  refine allUp_step (k':=49) (m':=7) rfl rfl ?_ ?_
  ·intro vs w9 hb hn;show wpList _ _ _ (pick _ [48]) (Act.put _ (some 68) (vs 47)) w9
   obtain⟨A47,d47,h47,r47⟩:=hn 47 (by decide);rw[h47];clear hn;simp only[pick,List.getElem?_toArray,List.getElem?_cons_succ,List.getElem?_cons_zero,Act.put,zA,zC,zB];go_wp2_with fail;exact⟨_,rfl,rfl,⟨_,_,(by first|rfl|simp),r47⟩,Below.refl _ _⟩
  refine allUp_step (k':=50) (m':=6) rfl rfl ?_ ?_
  ·intro vs w9 hb hn;show wpList _ _ _ (pick _ [49]) (setT _ vs [] _) w9
   clear hn;simp only[setT,pick,List.getElem?_toArray,List.getElem?_cons_succ,List.getElem?_cons_zero];go_wp2_with fail;exact⟨_,rfl,rfl,rfl,Below.refl _ _⟩
  refine allUp_step (k':=51) (m':=5) rfl rfl ?_ ?_
  ·intro vs w9 hb hn;show wpList _ _ _ (pick _ [50]) (Act.put _ (some 70) (vs 49)) w9
   rw[show vs 49=_ from hn 49 (by decide)];clear hn;simp only[pick,List.getElem?_toArray,List.getElem?_cons_succ,List.getElem?_cons_zero,Act.put,zA,zC,zB];go_wp2_with fail;exact⟨_,rfl,rfl,rfl,Below.refl _ _⟩
  refine allUp_step (k':=52) (m':=4) rfl rfl ?_ ?_
  ·intro vs w9 hb hn;show wpList _ _ _ (pick _ [51]) (Act.put _ (some 71) (vs 50)) w9
   rw[show vs 50=_ from hn 50 (by decide)];clear hn;simp only[pick,List.getElem?_toArray,List.getElem?_cons_succ,List.getElem?_cons_zero,Act.put,zA,zC,zB];refine wpList_make_full _ rfl (.tmp 71) (.tmp 71) 59 rfl w9.heap.size 58 i2 _ 4 Tryd.underlying59 hi2 hz2 hy2 _ _ _ _ (60+kk).toNat rfl rfl (by omega) (by omega) (by rw[hx2];omega) (by unfold maxLen;omega) (Nat.le_refl _) ?next
   case next=>
    intro w8 hown hgr;go_wp2_with fail;exact⟨_,rfl,rfl,Fk.ln_made (kQ alike_in9 hown) (by omega),(Below.refl _ _).grown hgr (Nat.le_refl _) (fun k hk=>by cases hk)⟩
  refine allUp_step (k':=53) (m':=3) rfl rfl ?_ ?_
  ·intro vs w9 hb hn;show wpList _ _ _ (pick _ [52]) (Act.put _ (some 72) (vs 51)) w9
   obtain⟨A51,d51,h51,r51⟩:=hn 51 (by decide);rw[h51];clear hn;simp only[pick,List.getElem?_toArray,List.getElem?_cons_succ,List.getElem?_cons_zero,Act.put,zA,zC,zB];go_wp2_with fail;exact⟨_,rfl,rfl,Fk.sl_one r51 (by first|rfl|simp),(Below.refl _ _).alloc (Nat.le_refl _) _⟩
  refine allUp_step (k':=54) (m':=2) rfl rfl ?_ ?_
  ·intro vs w9 hb hn;show wpList _ _ _ (pick _ [53]) (Act.put _ (some 73) (vs 52)) w9
   obtain⟨A52,d52,h52,r52⟩:=hn 52 (by decide);rw[h52];clear hn;simp only[pick,List.getElem?_toArray,List.getElem?_cons_succ,List.getElem?_cons_zero,Act.put,zA,zC,zB];go_wp2_with fail;exact⟨_,rfl,rfl,⟨_,_,(by first|rfl|simp),r52⟩,Below.refl _ _⟩
  refine allUp_step (k':=55) (m':=1) rfl rfl ?_ ?_
  ·intro vs w9 hb hn;show wpList _ _ _ (pick _ [54]) (Act.put (Act.put (Act.put (Act.put (Act.put (Act.put (Act.put (Act.put (Act.put (Act.put (Act.put (Act.put _ (some 21) (vs 0)) (some 25) (vs 4)) (some 27) (vs 6)) (some 33) (vs 12)) (some 40) (vs 19)) (some 45) (vs 24)) (some 50) (vs 29)) (some 55) (vs 34)) (some 60) (vs 39)) (some 64) (vs 43)) (some 69) (vs 48)) (some 74) (vs 53)) w9
   obtain⟨A0,d0,h0,r0⟩:=hn 0 (by decide);rw[h0];obtain⟨A4,d4,h4,r4⟩:=hn 4 (by decide);rw[h4];obtain⟨A6,d6,h6,r6⟩:=hn 6 (by decide);rw[h6];obtain⟨A12,d12,h12,r12⟩:=hn 12 (by decide);rw[h12];obtain⟨A19,d19,h19,r19⟩:=hn 19 (by decide);rw[h19];obtain⟨A24,d24,h24,r24⟩:=hn 24 (by decide);rw[h24];obtain⟨A29,d29,h29,r29⟩:=hn 29 (by decide);rw[h29];obtain⟨A34,d34,h34,r34⟩:=hn 34 (by decide);rw[h34];obtain⟨A39,d39,h39,r39⟩:=hn 39 (by decide);rw[h39];obtain⟨A43,d43,h43,r43⟩:=hn 43 (by decide);rw[h43];obtain⟨A48,d48,h48,r48⟩:=hn 48 (by decide);rw[h48];obtain⟨A53,d53,h53,r53⟩:=hn 53 (by decide);rw[h53];clear hn;simp only[pick,List.getElem?_toArray,List.getElem?_cons_succ,List.getElem?_cons_zero,Act.put,zA,zC,zB];go_wp2_with fail;exact⟨_,rfl,rfl,Fk.od_lit r0 (by have h:=r4;rwa[List.length_replicate] at h) r6 r12 r19 r24 r29 r34 r39 r43 r48 r53,(Below.refl _ _).alloc (Nat.le_refl _) _⟩
  refine allUp_step (k':=56) (m':=0) rfl rfl ?_ ?_
  ·intro vs w9 hb hn;show wpList _ _ _ (pick _ [55]) (Act.put _ (some 75) (vs 54)) w9
   obtain⟨A54,d54,h54,r54⟩:=hn 54 (by decide);rw[h54];clear hn;simp only[pick,List.getElem?_toArray,List.getElem?_cons_succ,List.getElem?_cons_zero,Act.put,zA,zC,zB];go_wp2_with fail;exact⟨_,rfl,rfl,⟨_,_,rfl,r54⟩,Below.refl _ _⟩
  exact allUp_done
 intro vs W2 hb hfs;obtain⟨Ao,co,ho,hrd⟩:=hfs 55 (by decide);clear hfs;replace ho:vs 55= .slice Ao 12 co:=ho;replace hrd:aj ppE W2 (fun _=>True) (.slice Ao 12 co) (oddQ kk):=hrd;simp only[setT,List.getD_cons_succ,List.getD_cons_zero,Act.put,zA,zC,zB];rw[ho];clear ho kw6 kw7 kw19 kw60 HDn hzd;replace HT:=sp0 HT.drew';replace hz:=HT.zz hz;replace HT:=sp0 (HT.call hb);replace hz:=Nat.le_trans hz hb.size;clear hb;replace HT:=sp0 (nd0 (HT.drop 0));have Ho:Hid (aj ppE W2 (Fr 0 []) (.slice Ao 12 co) ((oddQ kk))):=zG (hrd.keep (by show 0<1;omega) (fun _ _ _=>⟨⟨Nat.zero_le _,fun _ h=>by cases h⟩,rfl⟩));clear hrd;go_upto_region 5 with fail;replace⟨HT,Ho⟩:=sp1 (HT.new' #[.int .i64 6,.int .i64 1,.int .i64 1,.int .i64 3,.int .i64 2,.int .i64 4,.int .i64 2,.int .i64 2,.int .i64 2,.int .i64 5,.int .i64 2,.int .i64 1] 42 W2.heap.size) Ho.s;replace hz:=HT.zz hz;generalize (W2.alloc (.cells #[.int .i64 6,.int .i64 1,.int .i64 1,.int .i64 3,.int .i64 2,.int .i64 4,.int .i64 2,.int .i64 2,.int .i64 2,.int .i64 5,.int .i64 2,.int .i64 1] 42))=W3 at*;go_wp2_with fail;refine(Gi.out _).mono ?_;rintro en W' ⟨rfl,rfl⟩;obtain⟨x,hx⟩:∃x,(oddQ kk)[i]?=some x:=⟨_,zD (by show i<12;exact hi)⟩;rw[getD_some hx] at hpf;obtain⟨E,hE⟩:∃E,errQ.getD i 0=E:=⟨_,rfl⟩;rw[hE] at hpf hne;obtain⟨b,o,B,d,rfl,-,-,y0,hrx⟩:=(show aj (slE pgE (by show 0<1;omega)) W3 (Fr 0 [.blk W2.heap.size #[.int .i64 6,.int .i64 1,.int .i64 1,.int .i64 3,.int .i64 2,.int .i64 4,.int .i64 2,.int .i64 2,.int .i64 2,.int .i64 5,.int .i64 2,.int .i64 1] 42]) (.slice Ao 12 co) (oddQ kk) from Ho.out).at_s hx;have hv:(jf x).2.2=E:=(by unfold jf;rw[if_pos (by rw[hpf];exact hne)];exact hpf);have hN:jc x 10=E:=(by unfold jc;rw[if_pos (by rw[hv];exact hne)];exact hv);have HE:=zG hE;have HPf:=zG hpf;have HV:=zG hv;have HN:=zG hN;have Hne:=zG hne;have i0:(0:Int)≤(i:Int):=(by omega);have i12:(i:Int)<12:=(by omega);clear hE hpf hv hN hne hx Gi;clear Ho;have Hx:Hid (aj pgE W3 (Fr 0 [.blk W2.heap.size #[.int .i64 6,.int .i64 1,.int .i64 1,.int .i64 3,.int .i64 2,.int .i64 4,.int .i64 2,.int .i64 2,.int .i64 2,.int .i64 5,.int .i64 2,.int .i64 1] 42]) (.slice B x.length d) x):=zG hrx;clear hrx;go_wp2_with fail;have GE:=encode_any _ B d x W3 (Hu.below HT.below) Hx.out;unfold EncD at GE;rw[HPf.out] at GE;have HGE:=zG GE;clear GE;refine(HGE.out).mono ?_;rintro en W4 ⟨B2,d2,rfl,-,hb⟩;replace y0:=(hb.cell (p:=⟨b,_,none⟩) (lt_of_cell y0)).trans y0;replace⟨HT,Hx⟩:=sp1 (HT.call hb) Hx.s;replace hz:=Nat.le_trans hz hb.size;clear hb;have h_:=HT.rz 1;clear HGE;go_wp2_with fail;have GV:=lH _ B d x W4 (Hu.below HT.below) Hx.out;rw[HV.out] at GV;have HGV:=zG GV;clear GV;refine(HGV.out).mono ?_;rintro en W5 ⟨rfl,hb⟩;replace y0:=(hb.cell (p:=⟨b,_,none⟩) (lt_of_cell y0)).trans y0;clear h_;replace⟨HT,Hx⟩:=sp1 (HT.call hb) Hx.s;replace hz:=Nat.le_trans hz hb.size;clear hb;have h_:=HT.rz 1;clear HGV;go_wp2_with fail;have GN:=newBad_any _ B d x 10 E W5 HN.out Hne.out (Hu.below HT.below) Hx.out;have HGN:=zG GN;clear GN;refine(HGN.out).mono ?_;rintro en W6 ⟨rfl,hb⟩;clear h_;replace⟨HT,Hx⟩:=sp1 (HT.call hb) Hx.s;replace hz:=Nat.le_trans hz hb.size;clear hb;have h_:=HT.rz 1;clear HGN y0;go_upto_region 9 with fail;replace⟨HT,Hx⟩:=sp1 (HT.new' #[.slice none 0 0,.slice none 0 0] 31 W6.heap.size) Hx.s;replace hz:=HT.zz hz;clear h_;generalize (W6.alloc (.cells #[.slice none 0 0,.slice none 0 0] 31))=W7 at*;have c_e:W7.cell? ⟨W2.heap.size,i,none⟩=some (.int .i64 E):=by
  rw[cell_of_row _ _ _ _ _ _ (HT.heap 1 rfl),←HE.out];rcases (show i=0∨i=1∨i=2∨i=3∨i=4∨i=5∨i=6∨i=7∨i=8∨i=9∨i=10∨i=11 by omega) with rfl|rfl|rfl|rfl|rfl|rfl|rfl|rfl|rfl|rfl|rfl|rfl<;>rfl
 go_wp2_with fail;go_ret
 exact⟨by first|rfl|simp,HT.below⟩
theorem lifted (os:Os) (started:os.Started) (H:Type) (enc:TypeId×Value→H):
  ReturnsInHanded {} Tryd.checked os 5 .any (fun w args=>(Rows.programsBadSpec.pre enc Tryd.prog Tryd.f5 [] false w args∧laidMetH Tryd.prog Rows.programsBadRow.laid w)∧sizedMet enc Tryd.prog Tryd.f5 (OpenSpec.ofChange Rows.programsBadSpec) false w args) (Rows.programsBadSpec.post enc Tryd.prog Tryd.f5 false true false false):=by
 refine returnsInHanded_of_change_and (C:=Tryd.checked) (X:=fun w _=>laidMetH Tryd.prog Rows.programsBadRow.laid w) (fun _ _ _ hh h=>h.of_heap hh) own started (by kernel_rfl) Tryd.func5
  (ChangeSpec.witness_shaped (enc:=enc) (C:=Tryd.checked) (os:=os) (X:=fun w _=>laidMetH Tryd.prog Rows.programsBadRow.laid w) false (World.doorLaid Tryd.prog 400 os) #[.int .i64 0,.int .i64 0] 8 rfl (World.shaped_of_RefB (by kernel_rfl) (by kernel_rfl)) (by kernel_rfl) (by kernel_rfl) (by kernel_rfl) (door_met os _)) ?_
 intro W base args ds gs before hval0 hW _ hsz0 hL _;have hval:∀(j:Nat) t v,Tryd.f5.params[j]?=some t→args[j]?=some v→Value.okWide Tryd.prog W .any base t v:=hval0;have hsz:(DataW.weightsEach Tryd.prog (Tryd.f5.params.toList++Rows.programsBadSpec.plain.varTypes Tryd.prog) (ds++gs)).all (· ≤reachBytes)=true:=hsz0;have hW':=hW;obtain⟨p,q,hA0,hV,rfl,hfz,hnd⟩:=hW;have hA:DataW.TrodAll enc Tryd.prog W 0 (fun _=>true) true Tryd.f5.params.toList args.toList ds p:=hA0;rw[Tryd.params5] at hA hval hsz;obtain⟨v0,vs0,d0,ds0,p0,q0,hargs,rfl,rfl,h0,r0⟩:=trodAll_cons hA;obtain⟨v1,vs1,d1,ds1,p1,q1,rfl,rfl,rfl,h1,r1⟩:=trodAll_cons r0;obtain⟨rfl,rfl,rfl⟩:=trodAll_nil r1;obtain rfl:args= #[v0,v1]:=(by cases args;simp_all);obtain⟨rfl,rfl⟩:=trodVars_none hV;obtain⟨a0,rfl,-,-,w0⟩:=open_int Tryd.underlying3 (hval 0 3 v0 rfl rfl) h0;obtain⟨a1,rfl,-,-,w1⟩:=open_int Tryd.underlying3 (hval 1 3 v1 rfl rfl) h1;clear hA0 hval0 hsz0;refine(walk W a0 (wf_i64_range w0) a1 (wf_i64_range w1) (uses_of hL)).mono fun e W' ⟨he,hb⟩=>?_;subst he;exact⟨_,rfl,law_post (tb:=4) laidOut Tryd.underlying4 (by kernel_rfl) (by rw[Tryd.params5];exact all_types (by kernel_rfl)) rfl hW' rfl hb⟩
theorem closed:joinedFacts Tryd.prog 5 Tryd.f5 Rows.programsBadSpec Rows.programsBadRow=true:=
 facts_of (by kernel_rfl) laidOut fact_rowed (by kernel_rfl) (by kernel_rfl) (by kernel_rfl) fact_stops (by kernel_rfl) fact_knobs (by kernel_rfl) (by kernel_rfl) (by kernel_rfl) (by kernel_rfl) (by kernel_rfl) (by kernel_rfl) (by kernel_rfl) (by kernel_rfl) (by kernel_rfl) (by kernel_rfl) (by kernel_rfl) (by kernel_rfl) (by kernel_rfl) (by kernel_rfl) (by kernel_rfl) fact_heard fact_may (by rw[fact_lifts];rfl) fact_make ⟨rfl,rfl⟩ (by kernel_rfl) (by kernel_rfl) (by kernel_rfl)
theorem over:Rows.programsBadRow.holds Tryd.pinned (OpenSpec.ofChange Rows.programsBadSpec):=
 OpenClaim.holds_of_wide 5 Tryd.f5 rfl rfl rfl rfl rfl rfl rfl ⟨rfl,rfl,rfl,rfl,rfl⟩ rfl rfl rfl rfl rfl (by kernel_rfl) Tryd.func5 closed
  (of_decide_eq_true (by kernel_rfl)) (by unfold Func.isWrapper;first|(rw[if_pos (by decide+kernel)];kernel_rfl)|(rw[if_neg (by decide+kernel)];exact⟨rfl,rfl⟩))
  (fun os started H enc _=>lifted os started H enc)
end Go.Proofs.YtdmocjnjbihloaaDoor.lawProgramsBad
