/- What bytes are read as, in plain Lean; what is read is written so again. No condition; no run. A program is read as it was written; cut short it is not; in plain Lean. No condition; no run. -/
import Derived.Test.YtabcjdalifhpdaaDoorSpecE
namespace Go.Proofs.YtabcjdalifhpdaaDoor
section
def numF : List Int → Nat → Int → Except Int (Int × List Int)
 | [], _, _ => .error 5
 | c :: l, k, n => if k = 6 ∨ (0 < k ∧ c = 0) then .error 4 else if c < 128 then .ok (n + c % 128 * 128 ^ k, l) else numF l (k + 1) (n + c % 128 * 128 ^ k)
def unzz (n : Int) : Int := if n % 2 = 1 then -(n / 2) - 1 else n / 2
def regsF (op : Int) (l : List Int) : Except Int ((Int × Int) × List Int) :=
 if aB op = true then (match l with
  | [] => .error 5
  | c :: l => if 63 < c then .error 4 else .ok ((c % 8, c / 8), l)) else .ok ((0, 0), l)
def nextF (op : Int) (l : List Int) : Except Int (Int × List Int) :=
 if nB op = true then (match numF l 0 0 with
  | .error e => .error e
  | .ok (n, l) => .ok (unzz n, l)) else .ok (0, l)
def instrF : List Int → Except Int (Ins × List Int)
 | [] => .error 5
 | op :: l => if 19 < op then .error 3 else match regsF op l with
  | .error e => .error e
  | .ok ((a, b), l) => match nextF op l with
   | .error e => .error e
   | .ok (n, l) => .ok (⟨op, a, b, n⟩, l)
def codeD : Nat → List Int → Except Int (List Ins × List Int)
 | 0, l => .ok ([], l)
 | m + 1, l => match instrF l with
  | .error e => .error e
  | .ok (i, l) => match codeD m l with
   | .error e => .error e
   | .ok (is, l) => .ok (i :: is, l)
def kindsD : Nat → List Int → Except Int (List (List Ins) × List Int)
 | 0, l => .ok ([], l)
 | _ + 1, [] => .error 5
 | n + 1, m :: l => match codeD m.toNat l with
  | .error e => .error e
  | .ok (c, l) => match kindsD n l with
   | .error e => .error e
   | .ok (cs, l) => .ok (c :: cs, l)
def restD : List Int → Except Int (List (List Ins))
 | [] => .error 5
 | n :: l => match kindsD n.toNat l with
  | .error e => .error e
  | .ok (ps, l) => if l ≠ [] then .error 4 else if progF ps ≠ 0 then .error (progF ps) else .ok ps
def progD (l : List Int) : Except Int (List (List Ins)) :=
 if 5000 < l.length then .error 1 else match l with
 | x :: y :: l => if x ≠ 116 ∨ y ≠ 119 then .error 4 else restD l
 | _ => .error 5
def decP (l : List Int) : List (List Ins) := match progD l with | .ok ps => ps | .error _ => []
def decE (l : List Int) : Int := match progD l with | .ok _ => 0 | .error e => e
def AllB (l : List Int) : Prop := ∀ c ∈ l, 0 ≤ c ∧ c < 256
theorem AllB.tail {c : Int} {l : List Int} (h : AllB (c :: l)) : AllB l := fun x hx => h x (List.mem_cons_of_mem _ hx)
theorem numF_back : ∀ (l : List Int) (k : Nat) (n n' : Int) (l' : List Int), AllB l → numF l k n = .ok (n', l') → ∃ d : Nat, n' = n + d * 128 ^ k ∧ l = sev d ++ l' ∧ (0 < k → 0 < d) ∧ AllB l'
 | [], _, _, _, _, _, h => by simp [numF] at h
 | c :: l, k, n, n', l', hb, h => by
  have hc := hb c (by simp);rw [numF] at h;split at h
  ·cases h
  ·rename_i hk
   split at h
   ·rename_i hc'
    injection h with h
    injection h with h1 h2
    subst h1 h2;refine ⟨c.toNat, by rw [show ((c.toNat : Nat) : Int) = c % 128 by omega], ?_, fun hk' => by omega, hb.tail⟩;rw [sev_lt (by omega)];simp
    omega
   ·rename_i hc'
    obtain ⟨d, h1, h2, h3, h4⟩ := numF_back l (k + 1) _ n' l' hb.tail h;have hd := h3 (by omega);refine ⟨(c % 128).toNat + 128 * d, ?_, ?_, fun _ => by omega, h4⟩
    ·have e1 : (((c % 128).toNat + 128 * d : Nat) : Int) = c % 128 + 128 * (d : Int) := (by omega);rw [h1, e1, Int.pow_succ, Int.add_mul];have : (d : Int) * (128 ^ k * 128) = 128 * (d : Int) * 128 ^ k := (by ac_rfl);omega
    ·rw [sev_ge (by omega), h2];have e1 : ((c % 128).toNat + 128 * d) / 128 = d := (by omega);have e2 : ((128 + ((c % 128).toNat + 128 * d) % 128 : Nat) : Int) = c := (by omega);rw [e1, e2];rfl
theorem zz_unzz (d : Nat) : zz (unzz d) = d := by
 unfold zz unzz;split <;> split <;> omega
theorem regsF_back {op : Int} {l l' : List Int} {a b : Int} (hb : AllB l) (h : regsF op l = .ok ((a, b), l')) : l = (if aB op then [a + 8 * b] else []) ++ l' ∧ AllB l' := by
 unfold regsF at h;split at h
 ·rename_i ha
  match l, h with
  | c :: l, h =>
   simp only at h;split at h
   ·cases h
   ·injection h with h
    injection h with h1 h2
    injection h1 with h1 h3
    subst h1 h2 h3;refine ⟨?_, hb.tail⟩;rw [if_pos ha];have := hb c (by simp);simp
    omega
 ·rename_i ha
  injection h with h
  injection h with h1 h2
  subst h2;exact ⟨by rw [if_neg ha]; rfl, hb⟩
theorem nextF_back {op : Int} {l l' : List Int} {n : Int} (hb : AllB l) (h : nextF op l = .ok (n, l')) : l = (if nB op then sev (zz n) else []) ++ l' ∧ AllB l' := by
 unfold nextF at h;split at h
 ·rename_i ha
  split at h
  ·cases h
  ·rename_i n0 l0 hn
   injection h with h
   injection h with h1 h2
   subst h1 h2;obtain ⟨d, e1, e2, -, e4⟩ := numF_back l 0 0 n0 l0 hb hn;refine ⟨?_, e4⟩;rw [if_pos ha, e2];have : n0 = d := (by rw [e1]; simp);rw [this, zz_unzz]
 ·rename_i ha
  injection h with h
  injection h with h1 h2
  subst h2;exact ⟨by rw [if_neg ha]; rfl, hb⟩
theorem instrF_back {l l' : List Int} {i : Ins} (hb : AllB l) (h : instrF l = .ok (i, l')) : l = insB i ++ l' ∧ AllB l' := by
 match l, hb, h with
 | op :: l, hb, h =>
  rw [instrF] at h;split at h
  ·cases h
  ·split at h
   ·cases h
   ·rename_i a b l1 h1
    split at h
    ·cases h
    ·rename_i n l2 h2
     injection h with h
     injection h with e1 e2
     subst e1 e2;obtain ⟨g1, g2⟩ := regsF_back hb.tail h1;obtain ⟨g3, g4⟩ := nextF_back g2 h2;refine ⟨?_, g4⟩;rw [g1, g3];simp [insB]
theorem codeD_back : ∀ (m : Nat) (l l' : List Int) (is : List Ins), AllB l → codeD m l = .ok (is, l') → is.length = m ∧ l = (is.map insB).flatten ++ l' ∧ AllB l'
 | 0, l, l', is, hb, h => by
  injection h with h
  injection h with h1 h2
  subst h1 h2;exact ⟨rfl, rfl, hb⟩
 | m + 1, l, l', is, hb, h => by
  rw [codeD] at h;split at h
  ·cases h
  ·rename_i i l1 h1
   split at h
   ·cases h
   ·rename_i js l2 h2
    injection h with h
    injection h with e1 e2
    subst e1 e2;obtain ⟨g1, g2⟩ := instrF_back hb h1;obtain ⟨g3, g4, g5⟩ := codeD_back m l1 l2 js g2 h2;exact ⟨by simp [g3], by rw [g1, g4]; simp, g5⟩
theorem kindsD_back : ∀ (m : Nat) (l l' : List Int) (ps : List (List Ins)), AllB l → kindsD m l = .ok (ps, l') → ps.length = m ∧ l = (ps.map codeB).flatten ++ l' ∧ AllB l'
 | 0, l, l', is, hb, h => by
  injection h with h
  injection h with h1 h2
  subst h1 h2;exact ⟨rfl, rfl, hb⟩
 | _ + 1, [], _, _, _, h => by cases h
 | n + 1, m :: l, l', ps, hb, h => by
  rw [kindsD] at h;split at h
  ·cases h
  ·rename_i c l1 h1
   split at h
   ·cases h
   ·rename_i cs l2 h2
    injection h with h
    injection h with e1 e2
    subst e1 e2;obtain ⟨g0, g1, g2⟩ := codeD_back m.toNat l l1 c hb.tail h1;obtain ⟨g3, g4, g5⟩ := kindsD_back n l1 l2 cs g2 h2;have hm := hb m (by simp);refine ⟨by simp [g3], ?_, g5⟩;rw [g1, g4];simp [codeB]
    omega
theorem restD_back {l : List Int} {ps : List (List Ins)} (hb : AllB l) (h : restD l = .ok ps) : progF ps = 0 ∧ (ps.length : Int) :: (ps.map codeB).flatten = l := by
 match l, hb, h with
 | n :: l, hb, h =>
  rw [restD] at h;split at h
  ·cases h
  ·rename_i qs l1 h1
   split at h
   ·cases h
   ·rename_i hl
    split at h
    ·cases h
    ·rename_i hp
     injection h with h
     subst h;obtain ⟨g1, g2, g3⟩ := kindsD_back n.toNat l l1 qs hb.tail h1;have hn := hb n (by simp);have hl' : l1 = [] := (by simpa using hl);refine ⟨by simpa using hp, ?_⟩;rw [g2, hl'];simp
     omega
theorem progD_back {l : List Int} {ps : List (List Ins)} (hb : AllB l) (h : progD l = .ok ps) : progF ps = 0 ∧ progB ps = l := by
 unfold progD at h;split at h
 ·cases h
 ·match l, hb, h with
  | [], _, h => cases h
  | [_], _, h => cases h
  | x :: y :: l, hb, h =>
   simp only at h;split at h
   ·cases h
   ·rename_i hxy
    obtain ⟨h1, h2⟩ := restD_back hb.tail.tail h;refine ⟨h1, ?_⟩;have hx : x = 116 := (by omega);have hy : y = 119 := (by omega);rw [hx, hy, ← h2];simp [progB]
end
section
def pre {α : Type} (is : List α) : Except Int (List α × List Int) → Except Int (List α × List Int)
 | .error e => .error e
 | .ok (js, l) => .ok (is ++ js, l)
theorem pre_nil {α : Type} (r : Except Int (List α × List Int)) : pre [] r = r := by rcases r with _ | ⟨_, _⟩ <;> rfl
theorem pre_pre {α : Type} (a b : List α) (r : Except Int (List α × List Int)) : pre a (pre b r) = pre (a ++ b) r := by rcases r with _ | ⟨_, _⟩ <;> simp [pre]
theorem codeD_ok {m : Nat} {l l' : List Int} {i : Ins} (h : instrF l = .ok (i, l')) : codeD (m + 1) l = pre [i] (codeD m l') := by
 rw [codeD, h];dsimp only;rcases codeD m l' with _ | ⟨_, _⟩ <;> rfl
theorem codeD_err {m : Nat} {l : List Int} {e : Int} (h : instrF l = .error e) : codeD (m + 1) l = .error e := by rw [codeD, h]
theorem kindsD_ok {n : Nat} {m : Int} {l l' : List Int} {c : List Ins} (h : codeD m.toNat l = .ok (c, l')) : kindsD (n + 1) (m :: l) = pre [c] (kindsD n l') := by
 rw [kindsD, h];dsimp only;rcases kindsD n l' with _ | ⟨_, _⟩ <;> rfl
theorem kindsD_err {n : Nat} {m e : Int} {l : List Int} (h : codeD m.toNat l = .error e) : kindsD (n + 1) (m :: l) = .error e := by rw [kindsD, h]
structure Reads {α : Type} (f : List Int → Except Int (α × List Int)) (B : List Int) (a : α) : Prop where
 all : ∀ l, f (B ++ l) = .ok (a, l)
 cut : ∀ c, c < B.length → f (B.take c) = .error 5
def bindD {α β : Type} (g : List Int → Except Int (α × List Int)) (h : α → List Int → Except Int (β × List Int)) (l : List Int) : Except Int (β × List Int) :=
 match g l with
 | .error e => .error e
 | .ok (b, l) => h b l
def retD {α : Type} (a : α) (l : List Int) : Except Int (α × List Int) := .ok (a, l)
def byteD : List Int → Except Int (Int × List Int)
 | [] => .error 5
 | c :: l => .ok (c, l)
theorem Reads.ret {α : Type} (a : α) : Reads (retD a) [] a := ⟨fun _ => rfl, fun c h => absurd h (Nat.not_lt_zero c)⟩
theorem Reads.byte (c : Int) : Reads byteD [c] c := ⟨fun _ => rfl, fun k h => by
 obtain rfl : k = 0 := (by simpa using h);rfl⟩
theorem Reads.bind {α β : Type} {g : List Int → Except Int (α × List Int)} {h : α → List Int → Except Int (β × List Int)} {B C : List Int} {a : α} {b : β} (h1 : Reads g B a) (h2 : Reads (h a) C b) : Reads (bindD g h) (B ++ C) b := by
 refine ⟨fun l => ?_, fun c hc => ?_⟩
 ·unfold bindD;rw [List.append_assoc, h1.all];exact h2.all l
 ·unfold bindD;by_cases hcb : c < B.length
  ·rw [List.take_append_of_le_length (by omega), h1.cut c hcb]
  ·have e : (B ++ C).take c = B ++ C.take (c - B.length) := (by rw [List.take_append, List.take_of_length_le (by omega)]);rw [e, h1.all];exact h2.cut _ (by simp at hc; omega)
theorem Reads.of {α : Type} {f g : List Int → Except Int (α × List Int)} {B : List Int} {a : α} (h : Reads g B a) (e : ∀ l, f l = g l) : Reads f B a :=
 ⟨fun l => (e _).trans (h.all l), fun c hc => (e _).trans (h.cut c hc)⟩
theorem pow_split (d k : Nat) (n : Int) : n + ((128 + d % 128 : Nat) : Int) % 128 * 128 ^ k + ((d / 128 : Nat) : Int) * 128 ^ (k + 1) = n + (d : Int) * 128 ^ k := by
 have e1 : ((128 + d % 128 : Nat) : Int) % 128 = (d : Int) - 128 * ((d / 128 : Nat) : Int) := (by omega);rw [e1, Int.pow_succ, Int.sub_mul];have : ((d / 128 : Nat) : Int) * (128 ^ k * 128) = 128 * ((d / 128 : Nat) : Int) * 128 ^ k := (by ac_rfl);omega
theorem num_step {d k : Nat} {n : Int} {l : List Int} (_h1 : ¬ d < 128) (hk : k < 6) : numF (((128 + d % 128 : Nat) : Int) :: l) k n = numF l (k + 1) (n + ((128 + d % 128 : Nat) : Int) % 128 * 128 ^ k) := by
 rw [numF, if_neg (by omega), if_neg (by omega)]
theorem numF_all : ∀ (j d k : Nat) (n : Int) (l : List Int), d < 128 ^ j → j + k ≤ 6 → (k = 0 ∨ 0 < d) → numF (sev d ++ l) k n = .ok (n + d * 128 ^ k, l)
 | 0, d, k, n, l, hd, hk, h0 => by
  obtain rfl : d = 0 := (by simpa using hd);rw [sev_lt (by omega), List.singleton_append, numF, if_neg (by omega), if_pos (by decide)];simp
 | j + 1, d, k, n, l, hd, hk, h0 => by
  by_cases h1 : d < 128
  ·rw [sev_lt h1, List.singleton_append, numF, if_neg (by omega), if_pos (by omega)];rw [show (d : Int) % 128 = d by omega]
  ·rw [sev_ge h1, List.cons_append, num_step h1 (by omega), numF_all j (d / 128) (k + 1) _ l (by rw [Nat.div_lt_iff_lt_mul (by omega)]; rw [Nat.pow_succ] at hd; exact hd) (by omega) (.inr (by omega)), pow_split]
theorem numF_cut : ∀ (j d k : Nat) (n : Int) (c : Nat), d < 128 ^ j → j + k ≤ 6 → c < (sev d).length → numF ((sev d).take c) k n = .error 5
 | _, _, _, _, 0, _, _, _ => by simp [numF]
 | 0, d, k, n, c + 1, hd, _, hc => by
  obtain rfl : d = 0 := (by simpa using hd);rw [sev_lt (by omega)] at hc;simp at hc
 | j + 1, d, k, n, c + 1, hd, hk, hc => by
  by_cases h1 : d < 128
  ·rw [sev_lt h1] at hc;simp at hc
  ·rw [sev_ge h1] at hc ⊢;rw [List.take_succ_cons, num_step h1 (by omega)];exact numF_cut j (d / 128) (k + 1) _ c (by rw [Nat.div_lt_iff_lt_mul (by omega)]; rw [Nat.pow_succ] at hd; exact hd) (by omega) (by simpa using hc)
theorem unzz_zz (n : Int) : unzz (zz n) = n := by
 unfold zz unzz;split <;> split <;> omega
theorem nextF_reads {op n : Int} (h : -1099511627776 ≤ n ∧ n ≤ 1099511627776) (h0 : nB op = false → n = 0) : Reads (nextF op) (if nB op then sev (zz n) else []) n := by
 have hz := zz_le h;refine ⟨fun l => ?_, fun c hc => ?_⟩
 ·unfold nextF;split
  ·rw [numF_all 6 (zz n) 0 0 l (by omega) (by omega) (.inl rfl)];simp [unzz_zz]
  ·rename_i hn
   rw [h0 (by simpa using hn)];rfl
 ·unfold nextF;split at hc
  ·rename_i hn
   rw [if_pos hn, if_pos hn, numF_cut 6 (zz n) 0 0 c (by omega) (by omega) hc]
  ·simp at hc
theorem regsF_reads {op a b : Int} (ha : 0 ≤ a ∧ a ≤ 7) (hb : 0 ≤ b ∧ b ≤ 7) (h0 : aB op = false → a = 0 ∧ b = 0) : Reads (regsF op) (if aB op then [a + 8 * b] else []) (a, b) := by
 refine ⟨fun l => ?_, fun c hc => ?_⟩
 ·unfold regsF;split
  ·simp only [List.singleton_append];rw [if_neg (by omega)];congr 3 <;> omega
  ·rename_i hn
   obtain ⟨rfl, rfl⟩ := h0 (by simpa using hn);rfl
 ·unfold regsF;split at hc
  ·rename_i hn
   obtain rfl : c = 0 := (by simpa using hc);simp [hn]
  ·simp at hc
theorem instrF_reads {i : Ins} (h : InsOk i) (ha : aB i.op = false → i.a = 0 ∧ i.b = 0) (hn : nB i.op = false → i.n = 0) : Reads instrF (insB i) i := by
 refine Reads.of (g := bindD byteD (fun op => if 19 < op then fun _ => .error 3 else bindD (regsF op) fun ab => bindD (nextF op) fun n => retD ⟨op, ab.1, ab.2, n⟩)) ?_ (fun l => ?_)
 ·have e : insB i = [i.op] ++ ((if aB i.op then [i.a + 8 * i.b] else []) ++ ((if nB i.op then sev (zz i.n) else []) ++ [])) := (by simp [insB]);rw [e];refine (Reads.byte i.op).bind ?_;rw [if_neg (by have := h.op; omega)];exact (regsF_reads h.a h.b ha).bind ((nextF_reads h.n hn).bind (Reads.ret _))
 ·cases l with
  | nil => rfl
  | cons op l =>
   rw [instrF];simp only [bindD, byteD];split
   ·rfl
   ·simp only [bindD, retD];rcases regsF op l with _ | ⟨⟨a, b⟩, l1⟩
    ·rfl
    ·simp only;rcases nextF op l1 with _ | ⟨n, l2⟩ <;> rfl
theorem codeD_reads : ∀ (is : List Ins), (∀ i ∈ is, Reads instrF (insB i) i) → Reads (codeD is.length) (is.map insB).flatten is
 | [], _ => ⟨fun _ => rfl, fun c h => absurd h (Nat.not_lt_zero c)⟩
 | i :: is, h => by
  refine Reads.of (g := bindD instrF (fun i => bindD (codeD is.length) fun js => retD (i :: js))) ?_ (fun l => ?_)
  ·have e : ((i :: is).map insB).flatten = insB i ++ ((is.map insB).flatten ++ []) := (by simp);rw [e];exact (h i (by simp)).bind ((codeD_reads is (fun j hj => h j (by simp [hj]))).bind (Reads.ret _))
  ·rw [List.length_cons, codeD];unfold bindD;rcases instrF l with _ | ⟨i, l1⟩
   ·rfl
   ·simp only;rcases codeD is.length l1 with _ | ⟨js, l2⟩ <;> rfl
theorem kindsD_reads : ∀ (ps : List (List Ins)), (∀ l ∈ ps, ∀ i ∈ l, Reads instrF (insB i) i) → Reads (kindsD ps.length) (ps.map codeB).flatten ps
 | [], _ => ⟨fun _ => rfl, fun c h => absurd h (Nat.not_lt_zero c)⟩
 | k :: ps, h => by
  refine Reads.of (g := bindD byteD (fun m => bindD (codeD m.toNat) fun c => bindD (kindsD ps.length) fun cs => retD (c :: cs))) ?_ (fun l => ?_)
  ·have e : ((k :: ps).map codeB).flatten = [(k.length : Int)] ++ ((k.map insB).flatten ++ ((ps.map codeB).flatten ++ [])) := (by simp [codeB]);rw [e];refine (Reads.byte (k.length : Int)).bind ?_;exact (codeD_reads k (h k (by simp))).bind ((kindsD_reads ps (fun j hj => h j (by simp [hj]))).bind (Reads.ret _))
  ·rw [List.length_cons]
   cases l with
   | nil => rfl
   | cons m l =>
    rw [kindsD];simp only [bindD, byteD];rcases codeD m.toNat l with _ | ⟨c, l1⟩
    ·rfl
    ·simp only;rcases kindsD ps.length l1 with _ | ⟨cs, l2⟩ <;> rfl
theorem insF_zero {kinds len at_ : Int} {i : Ins} (h : insF kinds len at_ i = 0) : Reads instrF (insB i) i := by
 have hok := insF_ok h;unfold insF at h;split at h
 ·cases h
 rename_i h1
 split at h
 ·cases h
 rename_i h2
 split at h
 ·cases h
 rename_i h3
 refine instrF_reads hok (fun ha => ?_) (fun hn => ?_)
 ·rcases op_cases h1 with e | e | e | e | e | e | e | e | e | e | e | e | e | e | e | e | e | e | e | e <;> rw [e] at ha h3 <;> simp [aB, bB] at ha h3 <;> first | exact h3 | (exact absurd ha (by decide))
 ·have hh : lowN i.op = 0 ∧ highN i.op = 0 := by
   rcases op_cases h1 with e | e | e | e | e | e | e | e | e | e | e | e | e | e | e | e | e | e | e | e <;> rw [e] at hn ⊢ <;> first | exact ⟨by decide, by decide⟩ | (exact absurd hn (by decide))
  omega
theorem progF_reads {ps : List (List Ins)} (h : progF ps = 0) : Reads (kindsD ps.length) (ps.map codeB).flatten ps := by
 obtain ⟨h0, h6, -⟩ := progF_ok h;unfold progF at h;rw [if_neg h0, if_neg (by omega)] at h;refine kindsD_reads ps (fun l hl i hi => ?_);have hc : codeF ps.length l = 0 := firstF_zero h _ (List.mem_map.2 ⟨l, hl, rfl⟩);unfold codeF at hc;split at hc
 ·cases hc
 obtain ⟨k, hk⟩ := List.getElem?_of_mem hi;exact insF_zero (firstF_zero hc _ (List.mem_of_getElem? (rowF_at hk)))
theorem prog_cons (ps : List (List Ins)) : progB ps = 116 :: 119 :: (ps.length : Int) :: (ps.map codeB).flatten := rfl
theorem progD_all {ps : List (List Ins)} (h : progF ps = 0) (hl : (progB ps).length ≤ 5000) : progD (progB ps) = .ok ps := by
 unfold progD;rw [if_neg (by omega), prog_cons];simp only;rw [if_neg (by decide)];unfold restD;have := (progF_reads h).all [];rw [List.append_nil] at this;simp [this, h]
theorem progD_more {ps : List (List Ins)} (h : progF ps = 0) (hl : (progB ps).length < 5000) (x : Int) : progD (progB ps ++ [x]) = .error 4 := by
 unfold progD;rw [if_neg (by simp; omega), prog_cons];simp only [List.cons_append];rw [if_neg (by decide)];unfold restD;simp [(progF_reads h).all [x]]
theorem progD_cut {ps : List (List Ins)} (h : progF ps = 0) (hl : (progB ps).length ≤ 5000) {c : Nat} (hc : c < (progB ps).length) : progD ((progB ps).take c) = .error 5 := by
 unfold progD;rw [if_neg (by simp; omega)];rw [prog_cons] at hc ⊢;match c with
 | 0 => rfl
 | 1 => rfl
 | 2 => rfl
 | c + 3 =>
  simp only [List.take_succ_cons];rw [if_neg (by decide)];unfold restD;have := (progF_reads h).cut c (by simpa using hc);simp [this]
end
end Go.Proofs.YtabcjdalifhpdaaDoor
