/- The walk of slices.Clone at api.Act: a new row that holds the same list. No condition beside what is read. -/
import Derived.Test.YtdmocjnjbihloaaDoorHeapB
namespace Go.Proofs.YtdmocjnjbihloaaDoor
open Go.RowKit
def ClonedD (w:World) (S:Nat→Prop) (xs:List ig) (en:Ending) (w':World):Prop:=∃v,en= .returned v∧dQ deedE w' S w.heap.size 51 v xs∧Below w.heap.size w w'
theorem infoDD:(Tryd.prog.info? 51).map (fun i=>(i.zero,i.size,i.bytes))=some (some (.agg #[.int .i64 0,.int .i64 0,.int .i64 0,.int .i64 0]),4,32):=by kernel_rfl
set_option maxHeartbeats 1000000 in
theorem cloneD_any (S:Nat→Prop) (A:Option Addr) (c:Nat) (xs:List ig) (w:World) (hr:aj deedE w S (.slice A xs.length c) xs):
  Calls Tryd.prog 30 #[.slice A xs.length c] w (ClonedD w S xs):=by
 obtain⟨-,h1,h2,h3⟩:=hr.fw;obtain⟨i0,hi0,hz0,hz1,hz2⟩:=info_parts infoDD;obtain⟨css,hH,hflat⟩:=hr.held;rcases A with _|ad
 ·have hx:xs= []:=by
   obtain⟨A',c',hv,_,_,_,h4⟩:=hr
   cases hv
   by_cases hne:xs= []
   ·exact hne
   ·obtain⟨b,o,hA,_⟩:=h4 hne
    cases hA
  subst hx;have he:∀W:World,Sem.run Tryd.prog (binOp BinOp.eql 27 (.slice none 0 c) (.slice none 0 0)) W= .ok (.bool true) W:=fun W=>Lib.run_eql_slice_nil W 27 51 none 0 c 0 0 Tryd.underlying27;clear hr hH hflat h1 h2 h3;go_enter Tryd.func30,Tryd.ntmps30
  go_wp2
  go_ret
  exact⟨_,rfl,⟨[],Held.nil,⟨rfl,.inl ⟨rfl,rfl⟩⟩,by simp⟩,Below.refl _ _⟩
 ·have he:∀W:World,Sem.run Tryd.prog (binOp BinOp.eql 27 (.slice (some ad) xs.length c) (.slice none 0 0)) W= .ok (.bool false) W:=fun W=>Lib.run_eql_slice_nil W 27 51 (some ad) xs.length c 0 0 Tryd.underlying27;have hb:∀b,b<w.heap.size→S b→S b∧(w.alloc (.cells #[] 51)).heap[b]?=w.heap[b]?:=fun b hb hS=>⟨hS,Below.heap_alloc _ _ _ hb⟩;have Hfl:=zG (hflat ad rfl);have HH:=zG hH;have Hb:=zG hb;have Hlen:=zG (nu hH.size);have Hl2:=zG hH.len;have hown:(w.alloc (.cells #[] 51)).ownsRow w.heap.size 51 4 (.slice (some ⟨w.heap.size,0,none⟩) 0 0) 0 []:=
   ⟨rfl,.inr ⟨w.heap.size,0,#[],rfl,Nat.le_refl _,heap_alloc_new w _,Nat.le_refl _,Nat.zero_le _,rfl,rfl⟩⟩
  have Hown:=zG hown;clear hr hH hflat hb hown;go_enter Tryd.func30,Tryd.ntmps30
  go_wp2_with (at_builtin;refine wpList_append_own _ rfl (.tmp 5) (.tmp 6) _ rfl w.heap.size 51 i0 _ 4 32 Tryd.underlying27 hi0 hz0 hz1 hz2 rfl (by omega) (.slice (some ⟨w.heap.size,0,none⟩) 0 0) 0 [] rfl Hown.out ad xs.length c css.flatten rfl ?c1 ?c2 ?c3 ?c4 ?c5 ?c6 ?next)
  case c1=>rw[Hlen.out,Hl2.out];rfl
  case c2=>
   intro j u hu;have:=Hfl.out j u hu;rw[←this];refine World.cell?_alloc_lt w _ _ ?_;have hne:w.cell? (ad.add j)≠none:=(by rw[this];simp);rcases Nat.lt_or_ge (ad.add j).block w.heap.size with hl|hg
   ·exact hl
   ·exact absurd (by simp[World.cell?,Array.getElem?_eq_none hg]) hne
  case c3=>exact HH.one
  case c4=>unfold maxLen;omega
  case c5=>have h4:xs.length*32≤140737488355328:=h3;omega
  case c6=>simp
  case next=>
   intro v' w' hown' hg _;have Hown':=zG hown';clear hown';go_wp2
   go_ret
   have hB:Below w.heap.size w w':=((Below.refl _ _).alloc (Nat.le_refl _) _).grown hg (by simp) (fun k hk=>by simp[Value.ownBlock] at hk;omega);exact⟨_,rfl,⟨css,HH.keep (fun b hb hS=>⟨hS,hB.block b hb⟩),(by simpa using Hown'.out:w'.ownsRow w.heap.size 51 4 v' xs.length css.flatten),h3⟩,hB⟩
end Go.Proofs.YtdmocjnjbihloaaDoor
