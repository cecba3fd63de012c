/- What a reader of programs answers, step by step; in plain Lean. No condition; no run. -/
import Derived.Test.YtabcjdalifhpdaaDoorBackP
import Derived.Test.YtabcjdalifhpdaaDoorRead
import Derived.Test.YtabcjdalifhpdaaDoorSame
namespace Go.Proofs.YtabcjdalifhpdaaDoor
open Go.RowKit
def pgE : El (List Ins) := slE insE (by decide)
def okL (r : Except Int (List (List Ins))) : List (List Ins) := match r with | .ok ps => ps | .error _ => []
def errL (r : Except Int (List (List Ins))) : Int := match r with | .ok _ => 0 | .error e => e
def endD (r : Except Int (List (List Ins) × List Int)) : Except Int (List (List Ins)) := match r with
 | .error e => .error e
 | .ok (ps, t) => if t ≠ [] then .error 4 else if progF ps ≠ 0 then .error (progF ps) else .ok ps
theorem endD_more (ps : List (List Ins)) (x : UInt8) (l : List UInt8) : endD (.ok (ps, I8 (x :: l))) = .error 4 := by simp [endD, I8]
theorem endD_ok {ps : List (List Ins)} (h : progF ps = 0) : endD (.ok (ps, I8 [])) = .ok ps := by simp [endD, I8, h]
theorem endD_bad {ps : List (List Ins)} {f : Int} (h : progF ps = f) (h0 : f ≠ 0) : endD (.ok (ps, I8 [])) = .error f := by simp [endD, I8, h, h0]
theorem prog_big {l : List UInt8} (h : 5000 < l.length) : progD (I8 l) = .error 1 := by unfold progD; rw [if_pos (by rw [I8_len]; exact h)]
theorem prog_zero : progD (I8 []) = .error 5 := rfl
theorem prog_one {x : UInt8} : progD (I8 [x]) = .error 5 := rfl
theorem prog_two : progD (I8 [116, 119]) = .error 5 := rfl
theorem prog_sign {x y : UInt8} {l : List UInt8} (hl : ¬ 5000 < (x :: y :: l).length) (h : (x.toNat : Int) ≠ 116 ∨ (y.toNat : Int) ≠ 119) : progD (I8 (x :: y :: l)) = .error 4 := by
 unfold progD;rw [if_neg (by rw [I8_len]; exact hl)];simp only [I8, List.map_cons];rw [if_pos h]
theorem sign_is {x y : UInt8} (h : ¬ ((x.toNat : Int) ≠ 116 ∨ (y.toNat : Int) ≠ 119)) : x = 116 ∧ y = 119 := by
 refine ⟨UInt8.toNat_inj.1 ?_, UInt8.toNat_inj.1 ?_⟩
 ·show x.toNat = 116; omega
 ·show y.toNat = 119; omega
theorem prog_kinds {n : UInt8} {l : List UInt8} {r : Except Int (List (List Ins) × List Int)} (hl : ¬ 5000 < (116 :: 119 :: n :: l).length) (h : kindsD n.toNat (I8 l) = r) : progD (I8 (116 :: 119 :: n :: l)) = endD r := by
 unfold progD;rw [if_neg (by rw [I8_len]; exact hl)];show (if ((116 : Int) ≠ 116 ∨ (119 : Int) ≠ 119) then _ else restD ((n.toNat : Int) :: I8 l)) = _
 rw [if_neg (by decide)];unfold restD;simp only [Int.toNat_natCast, h];rcases r with _ | ⟨ps, t⟩ <;> rfl
end Go.Proofs.YtabcjdalifhpdaaDoor
