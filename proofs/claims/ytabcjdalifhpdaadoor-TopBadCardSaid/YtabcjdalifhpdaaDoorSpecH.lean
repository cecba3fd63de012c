/- What the heap's calls compute, as plain Lean functions. No condition; nothing here speaks of a run. -/
import Derived.Test.YtabcjdalifhpdaaDoorData
namespace Go.Proofs.YtabcjdalifhpdaaDoor
def wordB (n : Int) : Bool := decide (-1099511627776 ≤ n) && decide (n ≤ 1099511627776)
def valB (n : Nat) (v : V) : Bool :=
 if v.k = 0 then v.n == 0 else if v.k = 1 then wordB v.n else if v.k = 2 then decide (0 ≤ v.n) && decide (v.n < n) else false
def obB (n : Nat) (o : Ob) : Bool := decide (o.fields.length ≤ 4) && o.fields.all (valB n) && (o.dead != decide (0 < o.fields.length))
def limB (h : Hp) : Bool := decide (0 ≤ h.most) && decide (h.most ≤ 60) && decide ((h.objs.length : Int) ≤ h.most)
def hpB (h : Hp) (roots : List V) : Bool := limB h && h.objs.all (obB h.objs.length) && roots.all (valB h.objs.length)
end Go.Proofs.YtabcjdalifhpdaaDoor
