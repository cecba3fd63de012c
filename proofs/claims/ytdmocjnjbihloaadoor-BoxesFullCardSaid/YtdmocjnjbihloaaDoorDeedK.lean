/- Acts as rows of cells; what is laid in a block of the call's own becomes a row. No condition; no run. -/
import Derived.Test.YtdmocjnjbihloaaDoorStage
namespace Go.Proofs.YtdmocjnjbihloaaDoor
open Go.RowKit
theorem infoDeed:(Tryd.prog.info? 51).map (fun i=>(i.zero,i.size,i.bytes))=some (some (.agg #[.int .i64 0,.int .i64 0,.int .i64 0,.int .i64 0]),4,32):=by kernel_rfl
def dc (d:ig):List Value:=[.int .i64 d.kind,.int .i64 d.cK,.int .i64 d.n,.int .i64 d.m]
def dcs (l:List ig):List (List Value):=l.map dc
def dcA (d:ig):Array Value:=#[.int .i64 d.kind,.int .i64 d.cK,.int .i64 d.n,.int .i64 d.m]
theorem dc_one (d:ig):∀u∈dc d,u.oneCell'=true:=fun u hu=>by
 simp[dc] at hu
 rcases hu with rfl|rfl|rfl|rfl<;>rfl
theorem dcs_held {w:World} {S:Nat→Prop} (l:List ig):Held deedE w S (dcs l) l:=⟨by simp[dcs],fun i x cs hx hc=>by
 simp[dcs,hx] at hc
 subst hc;exact⟨rfl,rfl⟩⟩
theorem steps_snoc {l:List ig} {j:Nat} {x:ig}:dcs (l++List.replicate j x)++[dc x]=dcs (l++List.replicate (j+1) x):=by simp[dcs,List.replicate_succ']
theorem St.blkRowB {B:Nat} {w0 w:World} {R:List Res} (h:St B w0 w R) (i:Nat) {b:Nat} {cs:Array Value} {t:TypeId} (hi:R[i]?=some (.blk b cs t)) {n size:Nat} (hn:cs.size=n*size) (hm:n≤maxLen) {m:Nat} (hb:m≤b):
  St B w0 w (R.set i (.row m t size (.slice (some ⟨b,0,none⟩) n n) n cs.toList))∧au w R w (R.set i (.row m t size (.slice (some ⟨b,0,none⟩) n n) n cs.toList)):=
 h.turn (w':=w) i hi _ (Nat.le_refl _) rfl rfl rfl (fun _ _ _=>rfl) ⟨by simp[hn],.inr ⟨b,n,cs,rfl,hb,h.heap i hi,Nat.le_refl _,hm,hn,by rw[List.take_of_length_le (by simp[hn])]⟩⟩ (fun b' hb=> .inl (by injection (show some b=some b' from hb) with hb;exact hb.symm))
end Go.Proofs.YtdmocjnjbihloaaDoor
