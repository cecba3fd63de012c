/- A program is read as it was written; cut short it is not; in plain Lean. No condition; no run. -/
import Derived.Test.YtabcjdalifhpdaaDoorDecP
namespace Go.Proofs.YtabcjdalifhpdaaDoor

/-- What was read first, and what the reader says of the rest. -/
def pre {α : Type} (is : List α) : Except Int (List α × List Int) → Except Int (List α × List Int)
  | .error e => .error e
  | .ok (js, l) => .ok (is ++ js, l)
theorem pre_nil {α : Type} (r : Except Int (List α × List Int)) : pre [] r = r := by rcases r with _ | ⟨_, _⟩ <;> rfl
theorem pre_pre {α : Type} (a b : List α) (r : Except Int (List α × List Int)) : pre a (pre b r) = pre (a ++ b) r := by rcases r with _ | ⟨_, _⟩ <;> simp [pre]
theorem codeD_ok {m : Nat} {l l' : List Int} {i : Ins} (h : instrF l = .ok (i, l')) : codeD (m + 1) l = pre [i] (codeD m l') := by
  rw [codeD, h]
  dsimp only
  rcases codeD m l' with _ | ⟨_, _⟩ <;> rfl
theorem codeD_err {m : Nat} {l : List Int} {e : Int} (h : instrF l = .error e) : codeD (m + 1) l = .error e := by rw [codeD, h]
theorem kindsD_ok {n : Nat} {m : Int} {l l' : List Int} {c : List Ins} (h : codeD m.toNat l = .ok (c, l')) : kindsD (n + 1) (m :: l) = pre [c] (kindsD n l') := by
  rw [kindsD, h]
  dsimp only
  rcases kindsD n l' with _ | ⟨_, _⟩ <;> rfl
theorem kindsD_err {n : Nat} {m e : Int} {l : List Int} (h : codeD m.toNat l = .error e) : kindsD (n + 1) (m :: l) = .error e := by rw [kindsD, h]

/-- A reader, that reads some bytes as a thing, whatever follows; of the first of them alone it says that they are too few. -/
structure Reads {α : Type} (f : List Int → Except Int (α × List Int)) (B : List Int) (a : α) : Prop where
  all : ∀ l, f (B ++ l) = .ok (a, l)
  cut : ∀ c, c < B.length → f (B.take c) = .error 5
def bindD {α β : Type} (g : List Int → Except Int (α × List Int)) (h : α → List Int → Except Int (β × List Int)) (l : List Int) : Except Int (β × List Int) :=
  match g l with
  | .error e => .error e
  | .ok (b, l) => h b l
def retD {α : Type} (a : α) (l : List Int) : Except Int (α × List Int) := .ok (a, l)
def byteD : List Int → Except Int (Int × List Int)
  | [] => .error 5
  | c :: l => .ok (c, l)
theorem Reads.ret {α : Type} (a : α) : Reads (retD a) [] a := ⟨fun _ => rfl, fun c h => absurd h (Nat.not_lt_zero c)⟩
theorem Reads.byte (c : Int) : Reads byteD [c] c := ⟨fun _ => rfl, fun k h => by
  obtain rfl : k = 0 := by simpa using h
  rfl⟩
theorem Reads.bind {α β : Type} {g : List Int → Except Int (α × List Int)} {h : α → List Int → Except Int (β × List Int)} {B C : List Int} {a : α} {b : β} (h1 : Reads g B a) (h2 : Reads (h a) C b) : Reads (bindD g h) (B ++ C) b := by
  refine ⟨fun l => ?_, fun c hc => ?_⟩
  · unfold bindD
    rw [List.append_assoc, h1.all]
    exact h2.all l
  · unfold bindD
    by_cases hcb : c < B.length
    · rw [List.take_append_of_le_length (by omega), h1.cut c hcb]
    · have e : (B ++ C).take c = B ++ C.take (c - B.length) := by rw [List.take_append, List.take_of_length_le (by omega)]
      rw [e, h1.all]
      exact h2.cut _ (by simp at hc; omega)
theorem Reads.of {α : Type} {f g : List Int → Except Int (α × List Int)} {B : List Int} {a : α} (h : Reads g B a) (e : ∀ l, f l = g l) : Reads f B a :=
  ⟨fun l => (e _).trans (h.all l), fun c hc => (e _).trans (h.cut c hc)⟩

theorem pow_split (d k : Nat) (n : Int) : n + ((128 + d % 128 : Nat) : Int) % 128 * 128 ^ k + ((d / 128 : Nat) : Int) * 128 ^ (k + 1) = n + (d : Int) * 128 ^ k := by
  have e1 : ((128 + d % 128 : Nat) : Int) % 128 = (d : Int) - 128 * ((d / 128 : Nat) : Int) := by omega
  rw [e1, Int.pow_succ, Int.sub_mul]
  have : ((d / 128 : Nat) : Int) * (128 ^ k * 128) = 128 * ((d / 128 : Nat) : Int) * 128 ^ k := by ac_rfl
  omega
theorem num_step {d k : Nat} {n : Int} {l : List Int} (_h1 : ¬ d < 128) (hk : k < 6) : numF (((128 + d % 128 : Nat) : Int) :: l) k n = numF l (k + 1) (n + ((128 + d % 128 : Nat) : Int) % 128 * 128 ^ k) := by
  rw [numF, if_neg (by omega), if_neg (by omega)]
/-- Numbers of six groups at the most. -/
theorem numF_all : ∀ (j d k : Nat) (n : Int) (l : List Int), d < 128 ^ j → j + k ≤ 6 → (k = 0 ∨ 0 < d) → numF (sev d ++ l) k n = .ok (n + d * 128 ^ k, l)
  | 0, d, k, n, l, hd, hk, h0 => by
    obtain rfl : d = 0 := by simpa using hd
    rw [sev_lt (by omega), List.singleton_append, numF, if_neg (by omega), if_pos (by decide)]
    simp
  | j + 1, d, k, n, l, hd, hk, h0 => by
    by_cases h1 : d < 128
    · rw [sev_lt h1, List.singleton_append, numF, if_neg (by omega), if_pos (by omega)]
      rw [show (d : Int) % 128 = d by omega]
    · rw [sev_ge h1, List.cons_append, num_step h1 (by omega), numF_all j (d / 128) (k + 1) _ l (by rw [Nat.div_lt_iff_lt_mul (by omega)]; rw [Nat.pow_succ] at hd; exact hd) (by omega) (.inr (by omega)), pow_split]
theorem numF_cut : ∀ (j d k : Nat) (n : Int) (c : Nat), d < 128 ^ j → j + k ≤ 6 → c < (sev d).length → numF ((sev d).take c) k n = .error 5
  | _, _, _, _, 0, _, _, _ => by simp [numF]
  | 0, d, k, n, c + 1, hd, _, hc => by
    obtain rfl : d = 0 := by simpa using hd
    rw [sev_lt (by omega)] at hc
    simp at hc
  | j + 1, d, k, n, c + 1, hd, hk, hc => by
    by_cases h1 : d < 128
    · rw [sev_lt h1] at hc
      simp at hc
    · rw [sev_ge h1] at hc ⊢
      rw [List.take_succ_cons, num_step h1 (by omega)]
      exact numF_cut j (d / 128) (k + 1) _ c (by rw [Nat.div_lt_iff_lt_mul (by omega)]; rw [Nat.pow_succ] at hd; exact hd) (by omega) (by simpa using hc)
theorem unzz_zz (n : Int) : unzz (zz n) = n := by
  unfold zz unzz
  split <;> split <;> omega
theorem nextF_reads {op n : Int} (h : -1099511627776 ≤ n ∧ n ≤ 1099511627776) (h0 : nB op = false → n = 0) : Reads (nextF op) (if nB op then sev (zz n) else []) n := by
  have hz := zz_le h
  refine ⟨fun l => ?_, fun c hc => ?_⟩
  · unfold nextF
    split
    · rw [numF_all 6 (zz n) 0 0 l (by omega) (by omega) (.inl rfl)]
      simp [unzz_zz]
    · rename_i hn
      rw [h0 (by simpa using hn)]
      rfl
  · unfold nextF
    split at hc
    · rename_i hn
      rw [if_pos hn, if_pos hn, numF_cut 6 (zz n) 0 0 c (by omega) (by omega) hc]
    · simp at hc
theorem regsF_reads {op a b : Int} (ha : 0 ≤ a ∧ a ≤ 7) (hb : 0 ≤ b ∧ b ≤ 7) (h0 : aB op = false → a = 0 ∧ b = 0) : Reads (regsF op) (if aB op then [a + 8 * b] else []) (a, b) := by
  refine ⟨fun l => ?_, fun c hc => ?_⟩
  · unfold regsF
    split
    · simp only [List.singleton_append]
      rw [if_neg (by omega)]
      congr 3 <;> omega
    · rename_i hn
      obtain ⟨rfl, rfl⟩ := h0 (by simpa using hn)
      rfl
  · unfold regsF
    split at hc
    · rename_i hn
      obtain rfl : c = 0 := by simpa using hc
      simp [hn]
    · simp at hc
theorem instrF_reads {i : Ins} (h : InsOk i) (ha : aB i.op = false → i.a = 0 ∧ i.b = 0) (hn : nB i.op = false → i.n = 0) : Reads instrF (insB i) i := by
  refine Reads.of (g := bindD byteD (fun op => if 19 < op then fun _ => .error 3 else bindD (regsF op) fun ab => bindD (nextF op) fun n => retD ⟨op, ab.1, ab.2, n⟩)) ?_ (fun l => ?_)
  · have e : insB i = [i.op] ++ ((if aB i.op then [i.a + 8 * i.b] else []) ++ ((if nB i.op then sev (zz i.n) else []) ++ [])) := by simp [insB]
    rw [e]
    refine (Reads.byte i.op).bind ?_
    rw [if_neg (by have := h.op; omega)]
    exact (regsF_reads h.a h.b ha).bind ((nextF_reads h.n hn).bind (Reads.ret _))
  · cases l with
    | nil => rfl
    | cons op l =>
      rw [instrF]
      simp only [bindD, byteD]
      split
      · rfl
      · simp only [bindD, retD]
        rcases regsF op l with _ | ⟨⟨a, b⟩, l1⟩
        · rfl
        · simp only
          rcases nextF op l1 with _ | ⟨n, l2⟩ <;> rfl
theorem codeD_reads : ∀ (is : List Ins), (∀ i ∈ is, Reads instrF (insB i) i) → Reads (codeD is.length) (is.map insB).flatten is
  | [], _ => ⟨fun _ => rfl, fun c h => absurd h (Nat.not_lt_zero c)⟩
  | i :: is, h => by
    refine Reads.of (g := bindD instrF (fun i => bindD (codeD is.length) fun js => retD (i :: js))) ?_ (fun l => ?_)
    · have e : ((i :: is).map insB).flatten = insB i ++ ((is.map insB).flatten ++ []) := by simp
      rw [e]
      exact (h i (by simp)).bind ((codeD_reads is (fun j hj => h j (by simp [hj]))).bind (Reads.ret _))
    · rw [List.length_cons, codeD]
      unfold bindD
      rcases instrF l with _ | ⟨i, l1⟩
      · rfl
      · simp only
        rcases codeD is.length l1 with _ | ⟨js, l2⟩ <;> rfl
theorem kindsD_reads : ∀ (ps : List (List Ins)), (∀ l ∈ ps, ∀ i ∈ l, Reads instrF (insB i) i) → Reads (kindsD ps.length) (ps.map codeB).flatten ps
  | [], _ => ⟨fun _ => rfl, fun c h => absurd h (Nat.not_lt_zero c)⟩
  | k :: ps, h => by
    refine Reads.of (g := bindD byteD (fun m => bindD (codeD m.toNat) fun c => bindD (kindsD ps.length) fun cs => retD (c :: cs))) ?_ (fun l => ?_)
    · have e : ((k :: ps).map codeB).flatten = [(k.length : Int)] ++ ((k.map insB).flatten ++ ((ps.map codeB).flatten ++ [])) := by simp [codeB]
      rw [e]
      refine (Reads.byte (k.length : Int)).bind ?_
      exact (codeD_reads k (h k (by simp))).bind ((kindsD_reads ps (fun j hj => h j (by simp [hj]))).bind (Reads.ret _))
    · rw [List.length_cons]
      cases l with
      | nil => rfl
      | cons m l =>
        rw [kindsD]
        simp only [bindD, byteD]
        rcases codeD m.toNat l with _ | ⟨c, l1⟩
        · rfl
        · simp only
          rcases kindsD ps.length l1 with _ | ⟨cs, l2⟩ <;> rfl
theorem insF_zero {kinds len at_ : Int} {i : Ins} (h : insF kinds len at_ i = 0) : Reads instrF (insB i) i := by
  have hok := insF_ok h
  unfold insF at h
  split at h
  · cases h
  rename_i h1
  split at h
  · cases h
  rename_i h2
  split at h
  · cases h
  rename_i h3
  refine instrF_reads hok (fun ha => ?_) (fun hn => ?_)
  · rcases op_cases h1 with e | e | e | e | e | e | e | e | e | e | e | e | e | e | e | e | e | e | e | e <;> rw [e] at ha h3 <;> simp [aB, bB] at ha h3 <;> first | exact h3 | (exact absurd ha (by decide))
  · have hh : lowN i.op = 0 ∧ highN i.op = 0 := by
      rcases op_cases h1 with e | e | e | e | e | e | e | e | e | e | e | e | e | e | e | e | e | e | e | e <;> rw [e] at hn ⊢ <;> first | exact ⟨by decide, by decide⟩ | (exact absurd hn (by decide))
    omega
theorem progF_reads {ps : List (List Ins)} (h : progF ps = 0) : Reads (kindsD ps.length) (ps.map codeB).flatten ps := by
  obtain ⟨h0, h6, -⟩ := progF_ok h
  unfold progF at h
  rw [if_neg h0, if_neg (by omega)] at h
  refine kindsD_reads ps (fun l hl i hi => ?_)
  have hc : codeF ps.length l = 0 := firstF_zero h _ (List.mem_map.2 ⟨l, hl, rfl⟩)
  unfold codeF at hc
  split at hc
  · cases hc
  obtain ⟨k, hk⟩ := List.getElem?_of_mem hi
  exact insF_zero (firstF_zero hc _ (List.mem_of_getElem? (rowF_at hk)))
theorem prog_cons (ps : List (List Ins)) : progB ps = 116 :: 119 :: (ps.length : Int) :: (ps.map codeB).flatten := rfl
/-- A program is read as it was written. -/
theorem progD_all {ps : List (List Ins)} (h : progF ps = 0) (hl : (progB ps).length ≤ 5000) : progD (progB ps) = .ok ps := by
  unfold progD
  rw [if_neg (by omega), prog_cons]
  simp only
  rw [if_neg (by decide)]
  unfold restD
  have := (progF_reads h).all []
  rw [List.append_nil] at this
  simp [this, h]
/-- With a byte more it is none. -/
theorem progD_more {ps : List (List Ins)} (h : progF ps = 0) (hl : (progB ps).length < 5000) (x : Int) : progD (progB ps ++ [x]) = .error 4 := by
  unfold progD
  rw [if_neg (by simp; omega), prog_cons]
  simp only [List.cons_append]
  rw [if_neg (by decide)]
  unfold restD
  simp [(progF_reads h).all [x]]
/-- Cut short it is none. -/
theorem progD_cut {ps : List (List Ins)} (h : progF ps = 0) (hl : (progB ps).length ≤ 5000) {c : Nat} (hc : c < (progB ps).length) : progD ((progB ps).take c) = .error 5 := by
  unfold progD
  rw [if_neg (by simp; omega)]
  rw [prog_cons] at hc ⊢
  match c with
  | 0 => rfl
  | 1 => rfl
  | 2 => rfl
  | c + 3 =>
    simp only [List.take_succ_cons]
    rw [if_neg (by decide)]
    unfold restD
    have := (progF_reads h).cut c (by simpa using hc)
    simp [this]
end Go.Proofs.YtabcjdalifhpdaaDoor
