/- Plain laws of the first fault of a program. No condition. -/
import Derived.Test.YtabcjdalifhpdaaDoorSpecC
namespace Go.Proofs.YtabcjdalifhpdaaDoor
theorem progF_at {ps : List (List Ins)} {k : Nat} {x : List Ins} {r : Int} (hx : ps[k]? = some x) (h0 : ps.length ≠ 0) (h6 : ps.length ≤ 6) (hp : firstF ((ps.map (codeF ps.length)).take k) = 0) (hr : codeF ps.length x = r) (hne : r ≠ 0) : progF ps = r := by
 unfold progF;rw [if_neg h0, if_neg (by omega)];exact firstF_at hne (by rw [kinds_at hx, hr]) hp
theorem progF_end {ps : List (List Ins)} (h0 : ps.length ≠ 0) (h6 : ps.length ≤ 6) (hp : firstF (ps.map (codeF ps.length)) = 0) : progF ps = 0 := by
 unfold progF;rw [if_neg h0, if_neg (by omega)];exact hp
theorem codeF_at {n : Int} {x : List Ins} {j : Nat} {i : Ins} {r : Int} (hi : x[j]? = some i) (h0 : x.length ≠ 0) (h6 : x.length ≤ 60) (hp : firstF ((rowF n x).take j) = 0) (hr : insF n x.length j i = r) (hne : r ≠ 0) : codeF n x = r := by
 unfold codeF;rw [if_neg (by omega)];exact firstF_at hne (by rw [rowF_at hi, hr]) hp
theorem codeF_end {n : Int} {x : List Ins} (h0 : x.length ≠ 0) (h6 : x.length ≤ 60) (hp : firstF (rowF n x) = 0) : codeF n x = 0 := by
 unfold codeF;rw [if_neg (by omega)];exact hp
end Go.Proofs.YtabcjdalifhpdaaDoor
