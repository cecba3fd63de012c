/- The bytes of a program, as plain numbers. No condition; nothing here speaks of a run. -/
import Derived.Test.YtabcjdalifhpdaaDoorSpecC
namespace Go.Proofs.YtabcjdalifhpdaaDoor
def sev (n : Nat) : List Int := if _h : n < 128 then [(n : Int)] else ((128 + n % 128 : Nat) : Int) :: sev (n / 128)
 termination_by n
 decreasing_by omega
def zz (n : Int) : Nat := if n < 0 then (-2 * n - 1).toNat else (2 * n).toNat
def insB (i : Ins) : List Int := i.op :: ((if aB i.op then [i.a + 8 * i.b] else []) ++ (if nB i.op then sev (zz i.n) else []))
def codeB (l : List Ins) : List Int := (l.length : Int) :: (l.map insB).flatten
def progB (ps : List (List Ins)) : List Int := [116, 119, (ps.length : Int)] ++ (ps.map codeB).flatten
theorem sev_lt {n : Nat} (h : n < 128) : sev n = [(n : Int)] := by rw [sev, dif_pos h]
theorem sev_ge {n : Nat} (h : ¬ n < 128) : sev n = ((128 + n % 128 : Nat) : Int) :: sev (n / 128) := by rw [sev, dif_neg h]
theorem sev_len (k : Nat) : ∀ n : Nat, n < 128 ^ (k + 1) → (sev n).length ≤ k + 1 := by
 induction k with
 | zero => intro n h; rw [sev_lt (by simpa using h)]; simp
 | succ k ih =>
  intro n h;by_cases h1 : n < 128
  ·rw [sev_lt h1]; simp
  ·rw [sev_ge h1];have := ih (n / 128) (by rw [Nat.div_lt_iff_lt_mul (by omega)]; rw [Nat.pow_succ] at h; exact h);simpa using this
theorem zz_le {n : Int} (h : -1099511627776 ≤ n ∧ n ≤ 1099511627776) : zz n ≤ 2199023255552 := by
 unfold zz;split <;> omega
theorem sev_six {n : Int} (h : -1099511627776 ≤ n ∧ n ≤ 1099511627776) : (sev (zz n)).length ≤ 6 := by
 have := zz_le h;exact sev_len 5 _ (by omega)
theorem insB_len {i : Ins} (h : -1099511627776 ≤ i.n ∧ i.n ≤ 1099511627776) : (insB i).length ≤ 8 := by
 have := sev_six h;unfold insB;simp only [List.length_cons, List.length_append];split <;> split <;> simp <;> omega
theorem firstF_zero : ∀ {xs : List Int}, firstF xs = 0 → ∀ e ∈ xs, e = 0
 | [], _, e, he => by cases he
 | x :: xs, h, e, he => by
  simp only [firstF] at h;by_cases hx : x = 0
  ·simp only [hx, if_true] at h;rcases List.mem_cons.1 he with rfl | he
   ·exact hx
   ·exact firstF_zero h e he
  ·simp [hx] at h
structure InsOk (i : Ins) : Prop where
 op : 0 ≤ i.op ∧ i.op ≤ 19
 a : 0 ≤ i.a ∧ i.a ≤ 7
 b : 0 ≤ i.b ∧ i.b ≤ 7
 n : -1099511627776 ≤ i.n ∧ i.n ≤ 1099511627776
theorem insF_ok {kinds len at_ : Int} {i : Ins} (h : insF kinds len at_ i = 0) : InsOk i := by
 unfold insF at h;split at h
 ·cases h
 rename_i h1
 split at h
 ·cases h
 rename_i h2
 have hlo : -1099511627776 ≤ lowN i.op := by unfold lowN; repeat' split <;> omega
 have hhi : highN i.op ≤ 1099511627776 := by unfold highN; repeat' split <;> omega
 exact ⟨by omega, by omega, by omega, by omega⟩
theorem progF_ok {ps : List (List Ins)} (h : progF ps = 0) : ps.length ≠ 0 ∧ ps.length ≤ 6 ∧ ∀ l ∈ ps, l.length ≠ 0 ∧ l.length ≤ 60 ∧ ∀ i ∈ l, InsOk i := by
 unfold progF at h;split at h
 ·cases h
 rename_i h0
 split at h
 ·cases h
 rename_i h6
 refine ⟨h0, by omega, fun l hl => ?_⟩;have hc : codeF ps.length l = 0 := firstF_zero h _ (List.mem_map.2 ⟨l, hl, rfl⟩);unfold codeF at hc;split at hc
 ·cases hc
 rename_i hl'
 refine ⟨by omega, by omega, fun i hi => ?_⟩;obtain ⟨k, hk⟩ := List.getElem?_of_mem hi;have := firstF_zero hc _ (List.mem_of_getElem? (rowF_at hk));exact insF_ok this
end Go.Proofs.YtabcjdalifhpdaaDoor
