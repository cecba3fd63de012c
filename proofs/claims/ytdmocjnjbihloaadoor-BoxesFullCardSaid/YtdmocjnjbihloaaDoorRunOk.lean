/- A script of acts that may be done is run whole; what was told stays told. In plain Lean. No condition; no run. -/
import Derived.Test.YtdmocjnjbihloaaDoorActM
import Derived.Test.YtdmocjnjbihloaaDoorActQ
namespace Go.Proofs.YtdmocjnjbihloaaDoor
open Go.RowKit
theorem run_ok {ps:List (List Ins)} {most:Int} {l:List ig} (hv:(jf ps).2.2=0) (hm:2≤most∧most≤60) (hl:l.length≤3000) (hd:∀d∈l,cO d=0):runE ps most l=0∧runW ps most l=l.foldl (iY ps) (fZ most):=by
 have h0:jc ps most=0:=by
  unfold jc;rw[if_neg (by simp[hv]),if_neg (by omega)]
 have h1:runE ps most l=0:=by
  unfold runE;rw[if_neg (by simp[h0]),if_neg (by omega)];have hf:l.find? (fun d=>cO d !=0)=none:=List.find?_eq_none.2 (fun d h=>by simp[hd d h]);rw[hf]
 exact⟨h1,by unfold runW;rw[if_neg (by simp[h1])]⟩
theorem played {l m:List Rw} {k:Nat} {p:Int} (hk:k≤500) (hp:0≤p):(jf (dB l p)).2.2=0∧(actsK m k).length≤3000∧∀d∈actsK m k,cO d=0:=by
 refine⟨by rw[rD hp],?_,actsK_ok m k⟩;have:=actsK_few m k;omega
theorem twice {ps:List (List Ins)} {most:Int} {l r:List ig} (hv:(jf ps).2.2=0) (hm:2≤most∧most≤60) (hl:(l++r).length≤3000) (hd:∀d∈l++r,cO d=0):runE ps most (l++r)=0∧∃t,(runW ps most (l++r)).prints=(runW ps most l).prints++t:=by
 obtain⟨h1,e1⟩:=run_ok hv hm hl hd;obtain⟨_,e2⟩:=run_ok (l:=l) hv hm (by simp at hl;omega) (fun d h=>hd d (by simp[h]));refine⟨h1,?_⟩;rw[e1,e2,List.foldl_append];exact run_told ps r _
end Go.Proofs.YtdmocjnjbihloaaDoor
