/- The walks of heap.Check and what it calls, and of the document's answer to it: each computes the plain function of SpecH. No condition beside what is read. Slices that a call has made: what it says that one owns its row and holds a list; how such a slice is read, and what an append does to it. No condition beside sizes. The walk of heap.Check. No condition beside what is read. -/
import Derived.Test.YtdmocjnjbihloaaDoorSpecE
import Derived.Test.YtdmocjnjbihloaaDoorOpen
import Derived.Test.YtdmocjnjbihloaaDoorChecked
import Derived.Lib.Hide
import Derived.Shelf.Abstract
import Derived.Deep.QuietTactic
import Derived.BigQuiet
import Derived.Maps.AppendAt
import Derived.Deep.AppendLies
import Derived.Deep.RegionHeld3
import Derived.OwnWalk
namespace Go.Proofs.YtdmocjnjbihloaaDoor
section
open Go.RowKit
theorem ret_bool {a b:Bool} (h:a=b):Ending.returned (.bool a)=Ending.returned (.bool b):=by rw[h]
theorem ret_int {a b:Int} (h:a=b):Ending.returned (.int .i64 a)=Ending.returned (.int .i64 b):=by rw[h]
theorem any_not {α:Type} {p:α→Bool} {l:List α} (h:(l.any fun y=> !p y)=true):l.all p=false:=by
 rw[List.all_eq_not_any_not,h];rfl
theorem oU {α:Type} {p:α→Bool} {l:List α} (h:(l.any fun y=> !p y)=false):l.all p=true:=by
 rw[List.all_eq_not_any_not,h];rfl
set_option maxHeartbeats 400000 in
theorem word_any (n:Int) (w:World):
  Calls Tryd.prog 94 #[.int .i64 n] w fun e w'=>e= .returned (.bool (aY n))∧w=w':=by
 go_enter Tryd.func94,Tryd.ntmps94
 go_wp2
 all_goals
  go_ret
  exact⟨ret_bool (by simp[aY, *];try omega),rfl⟩
set_option maxHeartbeats 400000 in
theorem value_any (m:Int) (A:Option Addr) (n c:Nat) (x:V) (w:World):
  Calls Tryd.prog 84 #[.agg #[.int .i64 m,.slice A n c],.agg #[.int .i64 x.k,.int .i64 x.n]] w fun e w'=>e= .returned (.bool (fU n x))∧Below w.heap.size w w':=by
 obtain⟨k,y⟩:=x;go_enter Tryd.func84,Tryd.ntmps84
 go_wp2_with (go_at_call 94;refine(word_any _ _).mono ?_;rintro e w' ⟨rfl,rfl⟩)
 all_goals
  go_ret
  refine⟨ret_bool ?_,((Below.refl _ _).alloc (Nat.le_refl _) _).alloc (by simp) _⟩;simp_all [fU]<;>omega
def sG (F:Nat) (cap:Value) (w:World) (p:V→Bool):Prop:=
 ∀(x:V) (W:World),Below w.heap.size w W→Calls Tryd.prog F #[.agg #[.int .i64 x.k,.int .i64 x.n],cap] W fun e W'=>e= .returned (.bool (p x))∧Below W.heap.size W W'
def FoundV (p:V→Bool) (l:List V) (w:World) (e:Ending) (w':World):Prop:=∃r:Int,e= .returned (.int .i64 r)∧decide (0≤r)=l.any p∧Below w.heap.size w w'
theorem any_take_succ {α:Type} {p:α→Bool} {l:List α} {k:Nat} {x:α} (hx:l[k]?=some x) (h:(l.take k).any p=false) (hp:p x=false):(l.take (k+1)).any p=false:=by
 rw[List.take_add_one,hx];simp[h,hp]
theorem any_at {α:Type} {p:α→Bool} {l:List α} {k:Nat} {x:α} (hx:l[k]?=some x) (hp:p x=true):l.any p=true:=by
 rw[List.any_eq_true];exact⟨x,zF hx,hp⟩
theorem sG.gives {F:Nat} {cap:Value} {w W:World} {p:V→Bool} (hf:sG F cap w p) (b:Bool) {x:V} (hp:Hid (p x=b)) (hb:Below w.heap.size w W):
  Calls Tryd.prog F #[.agg #[.int .i64 x.k,.int .i64 x.n],cap] W fun e W'=>e= .returned (.bool b)∧Below W.heap.size W W':=
 (hf x W hb).mono fun _ _ ⟨he,h⟩=>⟨by rw[he,hp.out],h⟩
set_option maxHeartbeats 400000 in
theorem tX (F:Nat) (cap:Value) (p:V→Bool) (S:Nat→Prop) (A:Option Addr) (c:Nat) (l:List V) (w:World) (hr:aj vE w S (.slice A l.length c) l) (hf:sG F cap w p)
  (hen:∀(args:Array Value) (W:World),(callFunc F args).run Tryd.prog W= .ok (.enter F args) W):
  Calls Tryd.prog 93 #[.slice A l.length c,.func (.func F) #[] #[cap]] w (FoundV p l w):=by
 obtain⟨-,h1,h2,h3⟩:=hr.fw;have Hr:=zG hr;clear hr;go_enter Tryd.func93,Tryd.ntmps93
 go_wp2
 go_loopw [5,8] (fun _ i wr=>∃k:Nat,k≤l.length∧i= .int .i64 k∧(l.take k).any p=false∧Below w.heap.size w wr) (fun _ i _=>l.length - (intOf i).toNat)
 case atStart=>exact⟨0,by omega,rfl,by simp,Below.refl _ _⟩
 case round=>
  obtain⟨k,hk,rfl,hany,hb⟩:=hrel;by_cases hlt:k<l.length
  ·obtain⟨x,hx⟩:∃x,l[k]?=some x:=⟨l[k],zD hlt⟩;obtain⟨b,o,rfl,_,_,g0,g1⟩:=(Hr.below (by decide) hb).at_v hx;have Hany:=zG hany;have Hx:=zG hx;clear hany hx
   cases hp:p x
   all_goals
    have Hp:=zG hp;clear hp;go_wp2_with (refine(hf.gives _ Hp hb).mono ?_;rintro e w' ⟨rfl,hb1⟩)
   ·go_roundw
    case rel=>exact⟨k+1,by omega,by go_num,any_take_succ Hx.out Hany.out Hp.out,hb.trans (hb1.mono hb.size)⟩
    case measure=>simp[intOf];omega
   ·go_ret
    exact⟨_,rfl,by simp[any_at Hx.out Hp.out],hb.trans (hb1.mono hb.size)⟩
  ·have Hany:=zG hany;clear hany;go_wp2
   go_ret
   exact⟨_,rfl,by have:=Hany.out;rw[List.take_of_length_le (by omega)] at this;simp[this],hb⟩
set_option maxHeartbeats 400000 in
theorem qO (F:Nat) (cap:Value) (p:V→Bool) (S:Nat→Prop) (A:Option Addr) (c:Nat) (l:List V) (w:World) (hr:aj vE w S (.slice A l.length c) l) (hf:sG F cap w p)
  (hen:∀(args:Array Value) (W:World),(callFunc F args).run Tryd.prog W= .ok (.enter F args) W):
  Calls Tryd.prog 77 #[.slice A l.length c,.func (.func F) #[] #[cap]] w fun e w'=>e= .returned (.bool (l.any p))∧Below w.heap.size w w':=by
 have Hr:=zG hr;clear hr;go_enter Tryd.func77,Tryd.ntmps77
 go_wp2_with (refine(tX F cap p S A c l _ Hr.out hf hen).mono ?_;rintro e w' ⟨r,rfl,hd,hb⟩;have Hd:=zG hd;clear hd)
 go_ret
 exact⟨ret_bool Hd.out,hb⟩
theorem kC (F:Nat) (cap:Value) (p:V→Bool) (S:Nat→Prop) (A:Option Addr) (c:Nat) (l:List V) (w:World) (y:Bool) (hy:Hid (l.any p=y)) (hr:aj vE w S (.slice A l.length c) l) (hf:sG F cap w p)
  (hen:∀(args:Array Value) (W:World),(callFunc F args).run Tryd.prog W= .ok (.enter F args) W):
  Calls Tryd.prog 77 #[.slice A l.length c,.func (.func F) #[] #[cap]] w fun e w'=>e= .returned (.bool y)∧Below w.heap.size w w':=
 (qO F cap p S A c l w hr hf hen).mono fun _ _ ⟨he,h⟩=>⟨by rw[he,hy.out],h⟩
theorem qz (m:Int) (A:Option Addr) (n c:Nat) (B:Nat) (w:World) (h0:w.cell? ⟨B,0,none⟩=some (.int .i64 m)) (h1:w.cell? ⟨B,1,none⟩=some (.slice A n c)):
  sG 83 (.pointer (some ⟨B,0,none⟩)) w (fun x=> !fU n x):=by
 intro x W hb;have hB:=lt_of_cell h0;have g0:W.cell? ⟨B,0,none⟩=some (.int .i64 m):=(hb.cell (p:=⟨B,0,none⟩) hB).trans h0;have g1:W.cell? ⟨B,1,none⟩=some (.slice A n c):=(hb.cell (p:=⟨B,1,none⟩) hB).trans h1;have hBW:B<W.heap.size:=Nat.lt_of_lt_of_le hB hb.size;clear h0 h1 hb hB;go_enter Tryd.func83,Tryd.ntmps83
 go_wp2_with (refine(value_any m A n c x _).mono ?_;rintro e w' ⟨rfl,hb1⟩)
 go_ret
 exact⟨rfl,((Below.refl _ _).alloc (Nat.le_refl _) _).trans (hb1.mono (by simp))⟩
end
section
open Go.RowKit
theorem addr_add (b o n:Nat):(⟨b,o,none⟩:Addr).add n=⟨b,o+n,none⟩:=by
 unfold Addr.add;split
 ·rename_i h;subst h;rfl
 ·rfl
theorem nu {β:Type} {size:Nat}:∀{css:List (List β)},(∀cs∈css,cs.length=size)→css.flatten.length=css.length*size
 | [],_=>by simp
 |a::r,h=>by
  have ih:=nu (css:=r) (fun cs hc=>h cs (List.mem_cons_of_mem _ hc));rw[List.flatten_cons,List.length_append,ih,h a (List.mem_cons_self ..),List.length_cons,Nat.succ_mul,Nat.add_comm]
theorem jT {β:Type} {size:Nat}:∀{css:List (List β)} {i j:Nat} {cs:List β} {u:β},(∀cs∈css,cs.length=size)→css[i]?=some cs→cs[j]?=some u→css.flatten[i*size+j]?=some u
 | [],i,j,cs,u,_,h,_=>by simp at h
 |a::r,0,j,cs,u,h,hi,hj=>by
  simp at hi;subst hi
  have:j<a.length:=(zE.1 hj).1;rw[List.flatten_cons,Nat.zero_mul,Nat.zero_add,List.getElem?_append_left this,hj]
 |a::r,i+1,j,cs,u,h,hi,hj=>by
  have ha:=h a (List.mem_cons_self ..);have ih:=jT (css:=r) (i:=i) (fun cs hc=>h cs (List.mem_cons_of_mem _ hc)) (by simpa using hi) hj;rw[List.flatten_cons,List.getElem?_append_right (by rw[ha,Nat.succ_mul];omega),ha,←ih];congr 1
  rw[Nat.succ_mul];omega
theorem flat_back {β:Type} {size:Nat}:∀{css:List (List β)} {k:Nat} {u:β},(∀cs∈css,cs.length=size)→css.flatten[k]?=some u→∃i j cs,css[i]?=some cs∧cs[j]?=some u∧k=i*size+j
 | [],k,u,_,h=>by simp at h
 |a::r,k,u,h,hk=>by
  have ha:=h a (List.mem_cons_self ..);rcases Nat.lt_or_ge k a.length with hl|hg
  ·rw[List.flatten_cons,List.getElem?_append_left hl] at hk;exact⟨0,k,a,rfl,hk,by simp⟩
  ·rw[List.flatten_cons,List.getElem?_append_right hg] at hk;obtain⟨i,j,cs,hi,hj,he⟩:=flat_back (fun cs hc=>h cs (List.mem_cons_of_mem _ hc)) hk;exact⟨i+1,j,cs,by simpa using hi,hj,by rw[Nat.succ_mul];omega⟩
theorem gG {w:World} {o:Obj} {k:Nat} (h:k=w.heap.size):(w.alloc o).heap[k]?=some o:=h ▸ heap_alloc_new w o
theorem nT {w:World} {o p:Obj} {k:Nat} (h:w.heap[k]?=some p):(w.alloc o).heap[k]?=some p:=by
 have hl:k<w.heap.size:=by
  rcases Nat.lt_or_ge k w.heap.size with hl|hge
  ·exact hl
  ·rw[Array.getElem?_eq_none hge] at h;cases h
 exact(Below.heap_alloc w o k hl).trans h
theorem jK {w:World} {g i:Nat} {cs:Array Value} {t:TypeId} {fr:Nat×Nat} (h:w.heap[g]?=some (.cells cs t fr)) (u:Value):(w.setCell ⟨g,i,none⟩ u).heap[g]?=some (.cells (cs.setIfInBounds i u) t fr):=by
 simp[World.setCell,Array.getElem?_modify,h]
theorem own_below {w w':World} {base:Nat} {e:TypeId} {size:Nat} {v:Value} {n:Nat} {xs:List Value} (h:w.ownsRow base e size v n xs) (hb:Below w.heap.size w w'):w'.ownsRow base e size v n xs:=by
 obtain⟨h1,h2⟩:=h;refine⟨h1,?_⟩;rcases h2 with h2|⟨g,cap,cur,hv,hg,hh,r⟩
 ·exact .inl h2
 ·refine .inr ⟨g,cap,cur,hv,hg,?_,r⟩;have hl:g<w.heap.size:=by
   rcases Nat.lt_or_ge g w.heap.size with hl|hge
   ·exact hl
   ·rw[Array.getElem?_eq_none hge] at hh;cases hh
  exact(hb.block g hl).trans hh
theorem fH {w w':World} {base base':Nat} {e:TypeId} {size:Nat} {v:Value} {n:Nat} {xs:List Value} (h:w.ownsRow base e size v n xs) (hb:base'≤base) (hk:∀b,v.ownBlock=some b→w'.heap[b]?=w.heap[b]?):w'.ownsRow base' e size v n xs:=by
 obtain⟨h1,h2⟩:=h;refine⟨h1,?_⟩;rcases h2 with h2|⟨g,cap,cur,hv,hg,hh,r⟩
 ·exact .inl h2
 ·exact .inr ⟨g,cap,cur,hv,Nat.le_trans hb hg,(hk g (by rw[hv];rfl)).trans hh,r⟩
theorem own_ne {w:World} {base base':Nat} {e e':TypeId} {size size':Nat} {v v':Value} {n n':Nat} {xs xs':List Value} (h:w.ownsRow base e size v n xs) (h':w.ownsRow base' e' size' v' n' xs') (he:e≠e') {b:Nat} (hv:v.ownBlock=some b):v'.ownBlock≠some b:=by
 intro hv';rcases h.2 with⟨rfl,_⟩|⟨g,cap,cur,rfl,_,hh,_⟩
 ·cases hv
 rcases h'.2 with⟨rfl,_⟩|⟨g',cap',cur',rfl,_,hh',_⟩
 ·cases hv'
 simp[Value.ownBlock] at hv hv'
 subst hv;subst hv';rw[hh] at hh';injection hh' with hh'
 injection hh' with _ ht
 exact he ht
theorem dJ {w:World} {base:Nat} {e:TypeId} {size:Nat} {v:Value} {n:Nat} {xs:List Value} (h:w.ownsRow base e size v n xs) {g:Nat} (hg:v.ownBlock=some g):g<w.heap.size∧base≤g:=by
 rcases h.2 with⟨rfl,_⟩|⟨g',cap,cur,rfl,hb,hh,_⟩
 ·cases hg
 ·simp[Value.ownBlock] at hg
  subst hg;refine⟨?_,hb⟩;rcases Nat.lt_or_ge g' w.heap.size with hl|hge
  ·exact hl
  ·rw[Array.getElem?_eq_none hge] at hh;cases hh
theorem jG {β:Type} {size:Nat}:∀{css:List (List β)} {i j:Nat} {cs:List β} (u:β),(∀cs∈css,cs.length=size)→css[i]?=some cs→j<size→(css.set i (cs.set j u)).flatten=css.flatten.set (i*size+j) u
 | [],i,j,cs,u,_,h,_=>by simp at h
 |a::r,0,j,cs,u,h,hi,hj=>by
  simp at hi;subst hi
  have ha:=h a (List.mem_cons_self ..);rw[zB,List.flatten_cons,List.flatten_cons,Nat.zero_mul,Nat.zero_add,List.set_append_left _ _ (by omega)]
 |a::r,i+1,j,cs,u,h,hi,hj=>by
  have ha:=h a (List.mem_cons_self ..);have ih:=jG (css:=r) (i:=i) u (fun cs hc=>h cs (List.mem_cons_of_mem _ hc)) (by simpa using hi) hj;rw[zC,List.flatten_cons,List.flatten_cons,List.set_append_right _ _ (by rw[ha,Nat.succ_mul];omega),ih,ha];congr 2
  rw[Nat.succ_mul];omega
theorem kG {w:World} {base:Nat} {e:TypeId} {size:Nat} {g n c:Nat} {xs:List Value} (h:w.ownsRow base e size (.slice (some ⟨g,0,none⟩) n c) n xs) (i:Nat) (u:Value):
  (w.setCell ⟨g,i,none⟩ u).ownsRow base e size (.slice (some ⟨g,0,none⟩) n c) n (xs.set i u):=by
 obtain⟨h1,h2⟩:=h;refine⟨by simpa using h1,?_⟩;rcases h2 with⟨h0,_⟩|⟨g',cap,cur,hv,hg,hh,hn,hm,hs,ht⟩
 ·cases h0
 ·cases hv
  refine .inr ⟨g,c,cur.setIfInBounds i u,rfl,hg,jK hh u,hn,hm,by simpa using hs,?_⟩;rw[Array.toList_setIfInBounds,List.take_set,ht]
structure Held {α:Type} (E:El α) (w:World) (S:Nat→Prop) (css:List (List Value)) (xs:List α):Prop where
 len:css.length=xs.length
 each:∀(i:Nat) (x:α) (cs:List Value),xs[i]?=some x→css[i]?=some cs→cs.length=E.size∧E.rd w S cs x
section
variable {α:Type} {E:El α} {w w':World} {S S':Nat→Prop} {css:List (List Value)} {xs:List α}
theorem Held.size (h:Held E w S css xs):∀cs∈css,cs.length=E.size:=fun cs hc=>by
 obtain⟨i,hi⟩:=List.getElem?_of_mem hc;have hil:i<css.length:=(zE.1 hi).1;have hx:xs[i]?=some (xs[i]'(by rw[←h.len];exact hil)):=zD _;exact(h.each i _ cs hx hi).1
theorem Held.one (h:Held E w S css xs):∀u∈css.flatten,u.oneCell'=true:=fun u hu=>by
 obtain⟨cs,hc,hu⟩:=List.mem_flatten.1 hu;obtain⟨i,hi⟩:=List.getElem?_of_mem hc;have hil:i<css.length:=(zE.1 hi).1;have hx:xs[i]?=some (xs[i]'(by rw[←h.len];exact hil)):=zD _;exact E.one (h.each i _ cs hx hi).2 u hu
theorem Held.keep (hk:∀b,b<w.heap.size→S b→S' b∧w'.heap[b]?=w.heap[b]?) (h:Held E w S css xs):Held E w' S' css xs:=
 ⟨h.len,fun i x cs hx hc=>⟨(h.each i x cs hx hc).1,E.keep hk (h.each i x cs hx hc).2⟩⟩
theorem Held.nil:Held E w S [] []:=⟨rfl,fun i x cs h=>by simp at h⟩
theorem Held.append {css':List (List Value)} {ys:List α} (h:Held E w S css xs) (h':Held E w S css' ys):Held E w S (css++css') (xs++ys):=
 ⟨by simp[h.len,h'.len],fun i x cs hx hc=>by
  rcases Nat.lt_or_ge i xs.length with hl|hg
  ·rw[List.getElem?_append_left hl] at hx;rw[List.getElem?_append_left (by rw[h.len];exact hl)] at hc;exact h.each i x cs hx hc
  ·rw[List.getElem?_append_right hg] at hx;rw[List.getElem?_append_right (by rw[h.len];exact hg),h.len] at hc;exact h'.each _ x cs hx hc⟩
theorem Held.single {cs:List Value} {x:α} (hl:cs.length=E.size) (hr:E.rd w S cs x):Held E w S [cs] [x]:=
 ⟨rfl,fun i y ds hx hc=>by
  cases i with
  |zero=>simp at hx hc;subst hx;subst hc;exact⟨hl,hr⟩
  |succ n=>simp at hx⟩
theorem aj.held {A:Option Addr} {n c:Nat} (h:aj E w S (.slice A n c) xs):∃css,Held E w S css xs∧∀ad,A=some ad→∀(j:Nat) (u:Value),css.flatten[j]?=some u→w.cell? (ad.add j)=some u:=by
 obtain⟨A',c',hv,_,_,_,h4⟩:=h
 cases hv
 by_cases hne:xs= []
 ·subst hne;exact⟨[],Held.nil,fun _ _ j u hu=>by simp at hu⟩
 obtain⟨b,o,rfl,_,hi⟩:=h4 hne;have hL:∀n,n≤xs.length→∃css:List (List Value),css.length=n∧∀(i:Nat) (x:α) (cs:List Value),xs[i]?=some x→css[i]?=some cs→cs.length=E.size∧E.rd w S cs x∧∀(j:Nat) (u:Value),cs[j]?=some u→w.cell? ⟨b,o+i*E.size+j,none⟩=some u:=by
  intro n;induction n with
  |zero=>exact fun _=>⟨[],rfl,fun i x cs _ h=>by simp at h⟩
  |succ n ih=>
   intro hn;obtain⟨css,hl,hc⟩:=ih (by omega);obtain⟨cs,h1,h2,h3⟩:=hi n xs[n] (zD (by omega));refine⟨css++[cs],by simp[hl],fun i x ds hx hd=>?_⟩;rcases Nat.lt_or_ge i n with hlt|hge
   ·rw[List.getElem?_append_left (by omega)] at hd;exact hc i x ds hx hd
   ·rw[List.getElem?_append_right (by omega)] at hd;have:i=n:=by
     rcases Nat.eq_or_lt_of_le hge with h|h
     ·exact h.symm
     ·rw[List.getElem?_eq_none (by simp;omega)] at hd;cases hd
    subst this;simp[hl] at hd
    subst hd;rw[zD (by omega)] at hx;injection hx with hx
    subst hx;exact⟨h1,h2,h3⟩
 obtain⟨css,hl,hc⟩:=hL xs.length (Nat.le_refl _);have hH:Held E w S css xs:=⟨hl,fun i x cs hx hcs=>⟨(hc i x cs hx hcs).1,(hc i x cs hx hcs).2.1⟩⟩;refine⟨css,hH,fun ad had j u hu=>?_⟩;injection had with had
 subst had;obtain⟨i,r,cs,h1,h2,rfl⟩:=flat_back hH.size hu;have hil:i<css.length:=(zE.1 h1).1;have hx:xs[i]?=some (xs[i]'(by rw[←hl];exact hil)):=zD _;have:=(hc i _ cs hx h1).2.2 r u h2;rw[←this,addr_add,Nat.add_assoc]
def dQ (E:El α) (w:World) (S:Nat→Prop) (base:Nat) (e:TypeId) (v:Value) (xs:List α):Prop:=
 ∃css,Held E w S css xs∧w.ownsRow base e E.size v xs.length css.flatten∧xs.length*E.bytes≤140737488355328
theorem dQ.rd {base:Nat} {e:TypeId} {v:Value} (h:dQ E w S base e v xs):aj E w (fun b=>S b∨base≤b) v xs:=by
 obtain⟨css,hH,hown,hb⟩:=h;rcases hown.2 with⟨rfl,h0⟩|⟨g,cap,cur,rfl,hg,_,hn,hm,_⟩
 ·refine⟨none,0,by rw[h0],by omega,Nat.zero_le _,hb,fun hne=>absurd (List.eq_nil_of_length_eq_zero h0) hne⟩
 ·refine⟨_,cap,rfl,hn,hm,hb,fun _=>⟨g,0,rfl,.inr hg,fun i x hx=>?_⟩⟩;have hil:i<xs.length:=(zE.1 hx).1;have hc:css[i]?=some (css[i]'(by rw[hH.len];exact hil)):=zD _;obtain⟨h1,h2⟩:=hH.each i x _ hx hc;refine⟨_,h1,E.keep (fun b _ hS=>⟨.inl hS,rfl⟩) h2,fun j u hu=>?_⟩;have:=hown.cells (g:=g) rfl _ u (jT hH.size hc hu);rw[←this,addr_add,Nat.zero_add,Nat.zero_add]
theorem dQ.flat {base:Nat} {e:TypeId} {v:Value} (hE:∀(S S':Nat→Prop) (cs:List Value) (x:α),E.rd w S cs x→E.rd w S' cs x) (h:dQ E w S base e v xs):dQ E w S' base e v xs:=
 let ⟨css,hH,hr⟩:=h
 ⟨css,⟨hH.len,fun i x cs hx hc=>⟨(hH.each i x cs hx hc).1,hE _ _ _ _ (hH.each i x cs hx hc).2⟩⟩,hr⟩
theorem dQ.keep {base base':Nat} {e:TypeId} {v:Value} (hb:base'≤base) (hk:∀b,v.ownBlock=some b→w'.heap[b]?=w.heap[b]?) (hS:∀b,b<w.heap.size→S b→S' b∧w'.heap[b]?=w.heap[b]?)
  (h:dQ E w S base e v xs):dQ E w' S' base' e v xs:=
 let ⟨css,hH,hr,hs⟩:=h
 ⟨css,hH.keep hS,fH hr hb hk,hs⟩
theorem dQ.lt {base:Nat} {e:TypeId} {v:Value} (h:dQ E w S base e v xs) {g:Nat} (hg:v.ownBlock=some g):g<w.heap.size∧base≤g:=
 let ⟨_,_,hr,_⟩:=h
 dJ hr hg
theorem dQ.form {base:Nat} {e:TypeId} {v:Value} (h:dQ E w S base e v xs):∃A c,v= .slice A xs.length c:=by
 obtain⟨A,c,hv,_⟩:=h.rd.form;exact⟨A,c,hv⟩
end
end
section
open Go.RowKit
theorem pY {α:Type} {p:α→Bool} {l:List α} {k:Nat} {x:α} (hx:l[k]?=some x) (h:(l.take k).all p=true) (hp:p x=true):(l.take (k+1)).all p=true:=by
 rw[List.take_add_one,hx];simp only[List.all_append,h,Option.toList,List.all_cons,List.all_nil,hp,Bool.and_true]
theorem all_not {α:Type} {p:α→Bool} {l:List α} {k:Nat} {x:α} (hx:l[k]?=some x) (hp:p x=false):l.all p=false:=by
 rw[List.all_eq_false];exact⟨x,zF hx,by simp[hp]⟩
def checkN (h:Hp) (roots:List V):Int:=if hpB h roots then 0 else 8
set_option maxHeartbeats 4000000 in
theorem check_any (m:Int) (S T:Nat→Prop) (A R:Option Addr) (c d:Nat) (os:List Ob) (rs:List V) (w:World) (ho:aj obE w S (.slice A os.length c) os) (hq:aj vE w T (.slice R rs.length d) rs):
  Calls Tryd.prog 67 #[.agg #[.int .i64 m,.slice A os.length c],.slice R rs.length d] w fun e w'=>e= .returned (.int .i64 (checkN ⟨m,os⟩ rs))∧Below w.heap.size w w':=by
 obtain⟨-,h1,h2,h3⟩:=ho.fw;have Ho:=zG ho;have Hq:=zG hq;clear ho hq;have hen:=fun (args:Array Value) (W:World)=>(enters_of Tryd.func83 (by kernel_rfl) rfl:Enters Tryd.prog 83) args W;by_cases hl:0≤m∧m≤60∧(os.length:Int)≤m
 ·obtain⟨l1,l2,l3⟩:=hl;go_enter Tryd.func67,Tryd.ntmps67
  go_wp2
  go_loopw [7,28] (fun _ i wr=>∃k:Nat,k≤os.length∧i= .int .i64 k∧(os.take k).all (obB os.length)=true∧Below (w.heap.size+1) (w.alloc (.cells #[.int .i64 m,.slice A os.length c] 36)) wr) (fun _ i _=>os.length - (intOf i).toNat)
  case atStart=>exact⟨0,by omega,rfl,by simp,Below.refl _ _⟩
  case round=>
   obtain⟨k,hk,rfl,hall,hb⟩:=hrel;have Hall:=zG hall;clear hall;have hb':Below w.heap.size w wr:=((Below.refl _ _).alloc (Nat.le_refl _) _).trans (hb.mono (by omega));by_cases hlt:k<os.length
   ·obtain⟨x,hx⟩:∃x,os[k]?=some x:=⟨os[k],zD hlt⟩;obtain⟨b,o,B,e,rfl,_,hbs,g0,g1,hf⟩:=(Ho.below (by decide) hb').at_o hx;have Hx:=zG hx;have Hf:=zG hf;clear hx hf;have hw:w.heap.size+1≤wr.heap.size:=(by have:=hb.size;simp at this;omega);have k0:wr.cell? ⟨w.heap.size,0,none⟩=some (.int .i64 m):=(hb.cell (p:=⟨w.heap.size,0,none⟩) (by simp)).trans (by simp[go_sem]);have k1:wr.cell? ⟨w.heap.size,1,none⟩=some (.slice (some ⟨b,o,none⟩) os.length c):=(hb.cell (p:=⟨w.heap.size,1,none⟩) (by simp)).trans (by simp[go_sem]);by_cases c1:x.fields.length≤4
    ·cases c2:(x.fields.any fun y=> !fU os.length y)
     ·have C2:=zG c2;clear c2;go_wp2_with fail;refine(kC 83 _ _ _ _ _ _ _ _ C2 (Hf.below (by decide) (((Below.refl _ _).alloc (Nat.le_refl _) _))) (qz m _ os.length c w.heap.size _ (nK k0 _) (nK k1 _)) hen).mono ?_;rintro e w' ⟨rfl,hb1⟩;have q0:w'.cell? ⟨wr.heap.size,0,none⟩=some (.slice B x.fields.length e):=(hb1.cell (p:=⟨wr.heap.size,0,none⟩) (by simp)).trans (by simp[go_sem]);have hb2:Below w.heap.size w w':=(hb'.trans (((Below.refl _ _).alloc (Nat.le_refl _) _).mono hb'.size)).trans (hb1.mono (by have:=hb'.size;simp;omega));have hb3:Below (w.heap.size+1) (w.alloc (.cells #[.int .i64 m,.slice (some ⟨b,o,none⟩) os.length c] 36)) w':=(hb.trans (((Below.refl _ _).alloc (Nat.le_refl _) _).mono hw)).trans (hb1.mono (by simp;omega));by_cases c3:0<x.fields.length
      all_goals
       cases c4:x.dead
      all_goals
       have q1:w'.cell? ⟨wr.heap.size,1,none⟩=some (.bool x.dead):=(hb1.cell (p:=⟨wr.heap.size,1,none⟩) (by simp)).trans (by simp[go_sem]);rw[c4] at q1;have C4:=zG c4;clear c4;go_wp2
      ·go_roundw
       case rel=>exact⟨k+1,by omega,by go_num,pY Hx.out Hall.out (by simp[obB,c1,c3,oU C2.out,C4.out]),hb3⟩
       case measure=>simp[intOf];omega
      ·go_ret
       exact⟨ret_int (by
        have:hpB ⟨m,os⟩ rs=false:=(by simp[hpB,all_not Hx.out (show obB os.length x=false by simp[obB,C4.out,c3])]);simp[checkN,this]),hb2⟩
      ·go_ret
       exact⟨ret_int (by
        have:hpB ⟨m,os⟩ rs=false:=(by simp[hpB,all_not Hx.out (show obB os.length x=false by simp[obB,C4.out,c3])]);simp[checkN,this]),hb2⟩
      ·go_roundw
       case rel=>exact⟨k+1,by omega,by go_num,pY Hx.out Hall.out (by simp[obB,c1,c3,oU C2.out,C4.out]),hb3⟩
       case measure=>simp[intOf];omega
     ·have C2:=zG c2;clear c2;go_wp2_with (refine(kC 83 _ _ _ _ _ _ _ _ C2 (Hf.below (by decide) (((Below.refl _ _).alloc (Nat.le_refl _) _))) (qz m _ os.length c w.heap.size _ (nK k0 _) (nK k1 _)) hen).mono ?_;rintro e w' ⟨rfl,hb1⟩)
      go_ret
      exact⟨ret_int (by
       have:hpB ⟨m,os⟩ rs=false:=(by simp[hpB,all_not Hx.out (show obB os.length x=false by simp[obB,any_not C2.out])]);simp[checkN,this]),(hb'.trans (((Below.refl _ _).alloc (Nat.le_refl _) _).mono hb'.size)).trans (hb1.mono (by have:=hb'.size;simp;omega))⟩
    ·go_wp2
     go_ret
     exact⟨ret_int (by
      have:hpB ⟨m,os⟩ rs=false:=(by simp[hpB,all_not Hx.out (show obB os.length x=false by simp[obB,c1])]);simp[checkN,this]),hb'.trans (((Below.refl _ _).alloc (Nat.le_refl _) _).mono hb'.size)⟩
   ·have hA:os.all (obB os.length)=true:=(by have:=Hall.out;rwa[List.take_of_length_le (by omega)] at this);have HA:=zG hA;clear hA;have k0:wr.cell? ⟨w.heap.size,0,none⟩=some (.int .i64 m):=(hb.cell (p:=⟨w.heap.size,0,none⟩) (by simp)).trans (by simp[go_sem]);have k1:wr.cell? ⟨w.heap.size,1,none⟩=some (.slice A os.length c):=(hb.cell (p:=⟨w.heap.size,1,none⟩) (by simp)).trans (by simp[go_sem])
    cases c2:(rs.any fun y=> !fU os.length y)
    all_goals
     have C2:=zG c2;clear c2;go_wp2_with (refine(kC 83 _ _ _ _ _ _ _ _ C2 (Hq.below (by decide) hb') (qz m _ os.length c w.heap.size _ k0 k1) hen).mono ?_;rintro e w' ⟨rfl,hb1⟩)
     go_ret
    ·exact⟨ret_int (by
      have:hpB ⟨m,os⟩ rs=true:=(by simp only[hpB,HA.out,oU C2.out,limB];simp[l1,l2,l3]);simp[checkN,this]),hb'.trans (hb1.mono hb'.size)⟩
    ·exact⟨ret_int (by
      have:hpB ⟨m,os⟩ rs=false:=(by simp only[hpB,any_not C2.out,Bool.and_false]);simp[checkN,this]),hb'.trans (hb1.mono hb'.size)⟩
 ·have hL:hpB ⟨m,os⟩ rs=false:=by
   have:limB ⟨m,os⟩=false:=(by simp only[limB,Bool.and_eq_false_iff,decide_eq_false_iff_not];omega);simp[hpB,this]
  have HL:=zG hL;clear hL;go_enter Tryd.func67,Tryd.ntmps67
  go_wp2
  all_goals first
   |(exfalso;omega)
   |(go_ret;exact⟨ret_int (by simp[checkN,HL.out]),(Below.refl _ _).alloc (Nat.le_refl _) _⟩)
end
end Go.Proofs.YtdmocjnjbihloaaDoor
