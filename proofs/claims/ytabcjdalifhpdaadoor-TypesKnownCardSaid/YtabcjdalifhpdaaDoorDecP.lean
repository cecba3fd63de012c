/- What bytes are read as, in plain Lean; what is read is written so again. No condition; no run. -/
import Derived.Test.YtabcjdalifhpdaaDoorSpecE
namespace Go.Proofs.YtabcjdalifhpdaaDoor

/-- A number that is next, behind k groups whose sum is n. -/
def numF : List Int → Nat → Int → Except Int (Int × List Int)
  | [], _, _ => .error 5
  | c :: l, k, n => if k = 6 ∨ (0 < k ∧ c = 0) then .error 4 else if c < 128 then .ok (n + c % 128 * 128 ^ k, l) else numF l (k + 1) (n + c % 128 * 128 ^ k)
def unzz (n : Int) : Int := if n % 2 = 1 then -(n / 2) - 1 else n / 2
def regsF (op : Int) (l : List Int) : Except Int ((Int × Int) × List Int) :=
  if aB op = true then (match l with
    | [] => .error 5
    | c :: l => if 63 < c then .error 4 else .ok ((c % 8, c / 8), l)) else .ok ((0, 0), l)
def nextF (op : Int) (l : List Int) : Except Int (Int × List Int) :=
  if nB op = true then (match numF l 0 0 with
    | .error e => .error e
    | .ok (n, l) => .ok (unzz n, l)) else .ok (0, l)
/-- An instruction that is next. -/
def instrF : List Int → Except Int (Ins × List Int)
  | [] => .error 5
  | op :: l => if 19 < op then .error 3 else match regsF op l with
    | .error e => .error e
    | .ok ((a, b), l) => match nextF op l with
      | .error e => .error e
      | .ok (n, l) => .ok (⟨op, a, b, n⟩, l)
def codeD : Nat → List Int → Except Int (List Ins × List Int)
  | 0, l => .ok ([], l)
  | m + 1, l => match instrF l with
    | .error e => .error e
    | .ok (i, l) => match codeD m l with
      | .error e => .error e
      | .ok (is, l) => .ok (i :: is, l)
def kindsD : Nat → List Int → Except Int (List (List Ins) × List Int)
  | 0, l => .ok ([], l)
  | _ + 1, [] => .error 5
  | n + 1, m :: l => match codeD m.toNat l with
    | .error e => .error e
    | .ok (c, l) => match kindsD n l with
      | .error e => .error e
      | .ok (cs, l) => .ok (c :: cs, l)
/-- Behind the first two bytes. -/
def restD : List Int → Except Int (List (List Ins))
  | [] => .error 5
  | n :: l => match kindsD n.toNat l with
    | .error e => .error e
    | .ok (ps, l) => if l ≠ [] then .error 4 else if progF ps ≠ 0 then .error (progF ps) else .ok ps
/-- Bytes as a program. -/
def progD (l : List Int) : Except Int (List (List Ins)) :=
  if 5000 < l.length then .error 1 else match l with
  | x :: y :: l => if x ≠ 116 ∨ y ≠ 119 then .error 4 else restD l
  | _ => .error 5
/-- The program, or none; and what is wrong. -/
def decP (l : List Int) : List (List Ins) := match progD l with | .ok ps => ps | .error _ => []
def decE (l : List Int) : Int := match progD l with | .ok _ => 0 | .error e => e

def AllB (l : List Int) : Prop := ∀ c ∈ l, 0 ≤ c ∧ c < 256
theorem AllB.tail {c : Int} {l : List Int} (h : AllB (c :: l)) : AllB l := fun x hx => h x (List.mem_cons_of_mem _ hx)
theorem numF_back : ∀ (l : List Int) (k : Nat) (n n' : Int) (l' : List Int), AllB l → numF l k n = .ok (n', l') → ∃ d : Nat, n' = n + d * 128 ^ k ∧ l = sev d ++ l' ∧ (0 < k → 0 < d) ∧ AllB l'
  | [], _, _, _, _, _, h => by simp [numF] at h
  | c :: l, k, n, n', l', hb, h => by
    have hc := hb c (by simp)
    rw [numF] at h
    split at h
    · cases h
    · rename_i hk
      split at h
      · rename_i hc'
        injection h with h
        injection h with h1 h2
        subst h1 h2
        refine ⟨c.toNat, by rw [show ((c.toNat : Nat) : Int) = c % 128 by omega], ?_, fun hk' => by omega, hb.tail⟩
        rw [sev_lt (by omega)]
        simp
        omega
      · rename_i hc'
        obtain ⟨d, h1, h2, h3, h4⟩ := numF_back l (k + 1) _ n' l' hb.tail h
        have hd := h3 (by omega)
        refine ⟨(c % 128).toNat + 128 * d, ?_, ?_, fun _ => by omega, h4⟩
        · have e1 : (((c % 128).toNat + 128 * d : Nat) : Int) = c % 128 + 128 * (d : Int) := by omega
          rw [h1, e1, Int.pow_succ, Int.add_mul]
          have : (d : Int) * (128 ^ k * 128) = 128 * (d : Int) * 128 ^ k := by ac_rfl
          omega
        · rw [sev_ge (by omega), h2]
          have e1 : ((c % 128).toNat + 128 * d) / 128 = d := by omega
          have e2 : ((128 + ((c % 128).toNat + 128 * d) % 128 : Nat) : Int) = c := by omega
          rw [e1, e2]
          rfl
theorem zz_unzz (d : Nat) : zz (unzz d) = d := by
  unfold zz unzz
  split <;> split <;> omega
theorem regsF_back {op : Int} {l l' : List Int} {a b : Int} (hb : AllB l) (h : regsF op l = .ok ((a, b), l')) : l = (if aB op then [a + 8 * b] else []) ++ l' ∧ AllB l' := by
  unfold regsF at h
  split at h
  · rename_i ha
    match l, h with
    | c :: l, h =>
      simp only at h
      split at h
      · cases h
      · injection h with h
        injection h with h1 h2
        injection h1 with h1 h3
        subst h1 h2 h3
        refine ⟨?_, hb.tail⟩
        rw [if_pos ha]
        have := hb c (by simp)
        simp
        omega
  · rename_i ha
    injection h with h
    injection h with h1 h2
    subst h2
    exact ⟨by rw [if_neg ha]; rfl, hb⟩
theorem nextF_back {op : Int} {l l' : List Int} {n : Int} (hb : AllB l) (h : nextF op l = .ok (n, l')) : l = (if nB op then sev (zz n) else []) ++ l' ∧ AllB l' := by
  unfold nextF at h
  split at h
  · rename_i ha
    split at h
    · cases h
    · rename_i n0 l0 hn
      injection h with h
      injection h with h1 h2
      subst h1 h2
      obtain ⟨d, e1, e2, -, e4⟩ := numF_back l 0 0 n0 l0 hb hn
      refine ⟨?_, e4⟩
      rw [if_pos ha, e2]
      have : n0 = d := by rw [e1]; simp
      rw [this, zz_unzz]
  · rename_i ha
    injection h with h
    injection h with h1 h2
    subst h2
    exact ⟨by rw [if_neg ha]; rfl, hb⟩
theorem instrF_back {l l' : List Int} {i : Ins} (hb : AllB l) (h : instrF l = .ok (i, l')) : l = insB i ++ l' ∧ AllB l' := by
  match l, hb, h with
  | op :: l, hb, h =>
    rw [instrF] at h
    split at h
    · cases h
    · split at h
      · cases h
      · rename_i a b l1 h1
        split at h
        · cases h
        · rename_i n l2 h2
          injection h with h
          injection h with e1 e2
          subst e1 e2
          obtain ⟨g1, g2⟩ := regsF_back hb.tail h1
          obtain ⟨g3, g4⟩ := nextF_back g2 h2
          refine ⟨?_, g4⟩
          rw [g1, g3]
          simp [insB]
theorem codeD_back : ∀ (m : Nat) (l l' : List Int) (is : List Ins), AllB l → codeD m l = .ok (is, l') → is.length = m ∧ l = (is.map insB).flatten ++ l' ∧ AllB l'
  | 0, l, l', is, hb, h => by
    injection h with h
    injection h with h1 h2
    subst h1 h2
    exact ⟨rfl, rfl, hb⟩
  | m + 1, l, l', is, hb, h => by
    rw [codeD] at h
    split at h
    · cases h
    · rename_i i l1 h1
      split at h
      · cases h
      · rename_i js l2 h2
        injection h with h
        injection h with e1 e2
        subst e1 e2
        obtain ⟨g1, g2⟩ := instrF_back hb h1
        obtain ⟨g3, g4, g5⟩ := codeD_back m l1 l2 js g2 h2
        exact ⟨by simp [g3], by rw [g1, g4]; simp, g5⟩
theorem kindsD_back : ∀ (m : Nat) (l l' : List Int) (ps : List (List Ins)), AllB l → kindsD m l = .ok (ps, l') → ps.length = m ∧ l = (ps.map codeB).flatten ++ l' ∧ AllB l'
  | 0, l, l', is, hb, h => by
    injection h with h
    injection h with h1 h2
    subst h1 h2
    exact ⟨rfl, rfl, hb⟩
  | _ + 1, [], _, _, _, h => by cases h
  | n + 1, m :: l, l', ps, hb, h => by
    rw [kindsD] at h
    split at h
    · cases h
    · rename_i c l1 h1
      split at h
      · cases h
      · rename_i cs l2 h2
        injection h with h
        injection h with e1 e2
        subst e1 e2
        obtain ⟨g0, g1, g2⟩ := codeD_back m.toNat l l1 c hb.tail h1
        obtain ⟨g3, g4, g5⟩ := kindsD_back n l1 l2 cs g2 h2
        have hm := hb m (by simp)
        refine ⟨by simp [g3], ?_, g5⟩
        rw [g1, g4]
        simp [codeB]
        omega
theorem restD_back {l : List Int} {ps : List (List Ins)} (hb : AllB l) (h : restD l = .ok ps) : progF ps = 0 ∧ (ps.length : Int) :: (ps.map codeB).flatten = l := by
  match l, hb, h with
  | n :: l, hb, h =>
    rw [restD] at h
    split at h
    · cases h
    · rename_i qs l1 h1
      split at h
      · cases h
      · rename_i hl
        split at h
        · cases h
        · rename_i hp
          injection h with h
          subst h
          obtain ⟨g1, g2, g3⟩ := kindsD_back n.toNat l l1 qs hb.tail h1
          have hn := hb n (by simp)
          have hl' : l1 = [] := by simpa using hl
          refine ⟨by simpa using hp, ?_⟩
          rw [g2, hl']
          simp
          omega
/-- What was read as a program is a program, and it is written so. -/
theorem progD_back {l : List Int} {ps : List (List Ins)} (hb : AllB l) (h : progD l = .ok ps) : progF ps = 0 ∧ progB ps = l := by
  unfold progD at h
  split at h
  · cases h
  · match l, hb, h with
    | [], _, h => cases h
    | [_], _, h => cases h
    | x :: y :: l, hb, h =>
      simp only at h
      split at h
      · cases h
      · rename_i hxy
        obtain ⟨h1, h2⟩ := restD_back hb.tail.tail h
        refine ⟨h1, ?_⟩
        have hx : x = 116 := by omega
        have hy : y = 119 := by omega
        rw [hx, hy, ← h2]
        simp [progB]
end Go.Proofs.YtabcjdalifhpdaaDoor
