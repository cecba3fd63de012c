/- What a program's check answers, as plain functions of plain data. No condition; nothing here speaks of a run. -/
import Derived.Test.YtabcjdalifhpdaaDoorData
namespace Go.Proofs.YtabcjdalifhpdaaDoor
def usesT : List Int := [0, 5, 3, 3, 3, 5, 4, 5, 7, 7, 7, 7, 3, 3, 3, 1, 1, 7, 1, 0]
def aB (op : Int) : Bool := op != 0 && op != 6 && op != 19
def bB (op : Int) : Bool := (decide (2 ≤ op) && decide (op ≤ 4)) || (decide (8 ≤ op) && decide (op ≤ 14)) || op == 17
def nB (op : Int) : Bool := op == 1 || (decide (5 ≤ op) && decide (op ≤ 11)) || op == 17
def lowN (op : Int) : Int := if op = 1 then -1099511627776 else if op = 5 ∨ op = 6 then -60 else if op = 7 then 1 else 0
def highN (op : Int) : Int := if op = 1 then 1099511627776 else if op = 5 ∨ op = 6 then 60 else if op = 7 then 4 else if 8 ≤ op ∧ op ≤ 11 then 3 else if op = 17 then 5 else 0
def insF (kinds len at_ : Int) (i : Ins) : Int :=
 if i.op < 0 ∨ 19 < i.op then 3 else
 if i.a < 0 ∨ 8 ≤ i.a ∨ i.b < 0 ∨ 8 ≤ i.b ∨ i.n < lowN i.op ∨ highN i.op < i.n then 2 else
 if (aB i.op = false ∧ i.a ≠ 0) ∨ (bB i.op = false ∧ i.b ≠ 0) then 4 else
 if (i.op = 5 ∨ i.op = 6) ∧ (at_ + i.n < 0 ∨ len ≤ at_ + i.n) then 2 else
 if i.op = 17 ∧ kinds ≤ i.n then 2 else
 if at_ = len - 1 ∧ i.op ≠ 0 ∧ i.op ≠ 19 ∧ i.op ≠ 6 then 5 else 0
def firstF : List Int → Int
 | [] => 0
 | e :: r => if e = 0 then firstF r else e
def rowF (kinds : Int) (l : List Ins) : List Int := l.mapIdx fun at_ i => insF kinds l.length at_ i
def codeF (kinds : Int) (l : List Ins) : Int := if l.length = 0 ∨ 60 < l.length then 1 else firstF (rowF kinds l)
def progF (p : List (List Ins)) : Int := if p.length = 0 then 6 else if 6 < p.length then 1 else firstF (p.map (codeF p.length))
theorem firstF_take {xs : List Int} {k : Nat} (hx : xs[k]? = some 0) (h : firstF (xs.take k) = 0) : firstF (xs.take (k + 1)) = 0 := by
 rw [List.take_add_one, hx];generalize xs.take k = l at h;induction l with
 | nil => simp [firstF]
 | cons e l ih =>
  simp only [firstF] at h ⊢;by_cases he : e = 0
  ·simp [he] at h; simpa [firstF, he] using ih h
  ·simp [he] at h
theorem firstF_at {e : Int} (he : e ≠ 0) : ∀ {xs : List Int} {k : Nat}, xs[k]? = some e → firstF (xs.take k) = 0 → firstF xs = e
 | [], k, hx, _ => by simp at hx
 | x :: xs, 0, hx, _ => by simp at hx; subst hx; simp [firstF, he]
 | x :: xs, k + 1, hx, h => by
  simp only [List.take_succ_cons, firstF] at h;by_cases h0 : x = 0
  ·simp only [h0, if_true] at h;simp only [firstF, h0, if_true];exact firstF_at he (by simpa using hx) h
  ·simp [h0] at h
theorem rowF_at {kinds : Int} {l : List Ins} {k : Nat} {i : Ins} (h : l[k]? = some i) : (rowF kinds l)[k]? = some (insF kinds l.length k i) := by
 simp [rowF, h]
theorem kinds_at {n : Int} {p : List (List Ins)} {k : Nat} {l : List Ins} (h : p[k]? = some l) : (p.map (codeF n))[k]? = some (codeF n l) := by
 simp [h]
theorem rowF_len {kinds : Int} {l : List Ins} : (rowF kinds l).length = l.length := by simp [rowF]
theorem op_cases {op : Int} (h : ¬ (op < 0 ∨ 19 < op)) : op = 0 ∨ op = 1 ∨ op = 2 ∨ op = 3 ∨ op = 4 ∨ op = 5 ∨ op = 6 ∨ op = 7 ∨ op = 8 ∨ op = 9 ∨ op = 10 ∨ op = 11 ∨ op = 12 ∨ op = 13 ∨ op = 14 ∨ op = 15 ∨ op = 16 ∨ op = 17 ∨ op = 18 ∨ op = 19 := by omega
def nMayB (i : Ins) (at_ many kinds : Int) : Bool :=
 if i.op = 1 then decide (-1099511627776 ≤ i.n) && decide (i.n ≤ 1099511627776)
 else if i.op = 5 ∨ i.op = 6 then (decide (-60 ≤ i.n) && decide (i.n ≤ 60)) && (decide (0 ≤ at_ + i.n) && decide (at_ + i.n ≤ many - 1))
 else if i.op = 7 then decide (1 ≤ i.n) && decide (i.n ≤ 4)
 else if 8 ≤ i.op ∧ i.op ≤ 11 then decide (0 ≤ i.n) && decide (i.n ≤ 3)
 else if i.op = 17 then decide (0 ≤ i.n) && decide (i.n ≤ kinds - 1)
 else i.n == 0
def farN (i : Ins) : Bool := i.op == 5 || i.op == 6 || i.op == 17
def refF (kinds len at_ : Int) (i : Ins) : Int :=
 if i.op < 0 ∨ 19 < i.op then 3 else
 if farN i = true ∧ ((i.n < -60 ∨ 60 < i.n) ∨ (i.op = 17 ∧ (i.n < 0 ∨ 5 < i.n))) then 2 else
 if (i.a < 0 ∨ 7 < i.a) ∨ (i.b < 0 ∨ 7 < i.b) ∨ nMayB ⟨i.op, i.a, i.b, if farN i then 0 else i.n⟩ 0 1 1 = false then 2 else
 if (aB i.op = false ∧ i.a ≠ 0) ∨ (bB i.op = false ∧ i.b ≠ 0) then 4 else
 if nMayB i at_ len kinds = false then 2 else
 if at_ + 1 = len ∧ i.op ≠ 0 ∧ i.op ≠ 19 ∧ i.op ≠ 6 then 5 else 0
theorem refF_eq {kinds len at_ : Int} {i : Ins} : refF kinds len at_ i = insF kinds len at_ i := by
 obtain ⟨op, a, b, n⟩ := i;unfold refF insF;dsimp only;by_cases h : op < 0 ∨ 19 < op
 ·rw [if_pos h, if_pos h]
 rw [if_neg h, if_neg h];have hl : (at_ + 1 = len) ↔ (at_ = len - 1) := (by omega);rcases op_cases h with rfl | rfl | rfl | rfl | rfl | rfl | rfl | rfl | rfl | rfl | rfl | rfl | rfl | rfl | rfl | rfl | rfl | rfl | rfl | rfl
 all_goals
  simp only [nMayB, farN, lowN, highN, aB, bB, hl];simp
  repeat' split
 all_goals (first | rfl | omega)
theorem uses_and {op : Int} (h : ¬ (op < 0 ∨ 19 < op)) : ∃ u : Int, usesT[op.toNat]? = some u ∧ 0 ≤ u ∧ u ≤ 7 ∧ (u % 2 = 0 ↔ aB op = false) ∧ (u / 2 % 2 = 0 ↔ bB op = false) ∧ (u / 4 = 0 ↔ nB op = false) := by
 rcases op_cases h with rfl | rfl | rfl | rfl | rfl | rfl | rfl | rfl | rfl | rfl | rfl | rfl | rfl | rfl | rfl | rfl | rfl | rfl | rfl | rfl <;> exact ⟨_, rfl, by decide, by decide, by decide, by decide, by decide⟩
end Go.Proofs.YtabcjdalifhpdaaDoor
