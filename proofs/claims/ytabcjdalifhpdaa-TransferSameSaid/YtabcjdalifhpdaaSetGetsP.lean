/- The plain law: what was set is there, and nothing else has changed. Condition: a heap that may be, all alive. -/
import Derived.Test.YtabcjdalifhpdaaMayW
namespace Go.Proofs.Ytabcjdalifhpdaa
theorem good_hp {m : Int} {os : List Ob} (h : GoodH m os) {l : List V} (hl : l.all (valB os.length) = true) : hpB ⟨m, os⟩ l = true := by
 have := h.may;simp only [hpB, Bool.and_eq_true] at this ⊢;exact ⟨this.1, hl⟩
theorem ref_val {n i : Nat} (h : i < n) : valB n ⟨2, (i : Int)⟩ = true := by simp [valB, h]
theorem objectE_good {m : Int} {os : List Ob} (h : GoodH m os) {i : Nat} {o : Ob} (ho : os[i]? = some o) (f : Int) : objectE os ⟨2, (i : Int)⟩ f = if f < 0 ∨ (o.fields.length : Int) ≤ f then 2 else 0 := by
 simp [objectE, ho, h.alive o (List.mem_of_getElem? ho)]
theorem setOs_ref {os : List Ob} {i j : Nat} (k : Nat) {o : Ob} (x : V) (ho : os[j]? = some o) : (setOs os i k x)[j]? = some (if i = j then ⟨o.fields.set k x, o.dead⟩ else o) := by
 rw [setOs_at];split <;> simp [ho]
theorem set_gets {m : Int} {os : List Ob} (h : GoodH m os) {i j : Nat} (hi : i < os.length) (hj : j < os.length) {f g : Int} (hf : 0 ≤ f) (hg : 0 ≤ g) {x : V} (hx : valB os.length x = true) :
  (setE ⟨m, os⟩ ⟨2, (i : Int)⟩ f x ≠ 0 → setE ⟨m, os⟩ ⟨2, (i : Int)⟩ f x = 2 ∧ ∃ o, os[i]? = some o ∧ (o.fields.length : Int) ≤ f) ∧
  (setE ⟨m, os⟩ ⟨2, (i : Int)⟩ f x = 0 →
   (i = j ∧ f = g → gotE m (setOs os i f.toNat x) ⟨2, (j : Int)⟩ g = 0 ∧ gotV m (setOs os i f.toNat x) ⟨2, (j : Int)⟩ g = x) ∧
   (¬ (i = j ∧ f = g) → gotE m (setOs os i f.toNat x) ⟨2, (j : Int)⟩ g = gotE m os ⟨2, (j : Int)⟩ g ∧ gotV m (setOs os i f.toNat x) ⟨2, (j : Int)⟩ g = gotV m os ⟨2, (j : Int)⟩ g)) := by
 obtain ⟨o, ho⟩ : ∃ o, os[i]? = some o := ⟨_, List.getElem?_eq_getElem hi⟩;obtain ⟨p, hp⟩ : ∃ p, os[j]? = some p := ⟨_, List.getElem?_eq_getElem hj⟩;have hb : hpB ⟨m, os⟩ [⟨2, (i : Int)⟩, x] = true := good_hp h (by simp [ref_val hi, hx]);have hE : setE ⟨m, os⟩ ⟨2, (i : Int)⟩ f x = if f < 0 ∨ (o.fields.length : Int) ≤ f then 2 else 0 := by
  rw [← objectE_good h ho];simp [setE, hb]
 refine ⟨fun hne => ?_, fun h0 => ?_⟩
 ·rw [hE] at hne ⊢;split at hne
  ·rename_i hc
   rw [if_pos hc];exact ⟨rfl, o, ho, by omega⟩
  ·exact absurd rfl hne
 ·have hg2 : GoodH m (setOs os i f.toNat x) := (by simpa using h.set h0);have hlen : (setOs os i f.toNat x).length = os.length := setOs_len _ _ _ _;have hbj : hpB ⟨m, os⟩ [⟨2, (j : Int)⟩] = true := good_hp h (by simp [ref_val hj]);have hbj' : hpB ⟨m, setOs os i f.toNat x⟩ [⟨2, (j : Int)⟩] = true := good_hp hg2 (by rw [hlen]; simp [ref_val hj]);have hfl : f < (o.fields.length : Int) := by
   rw [hE] at h0;split at h0
   ·cases h0
   ·omega
  have hq := setOs_ref (i := i) f.toNat x hp;have e1 : gotE m os ⟨2, (j : Int)⟩ g = if (p.fields.length : Int) ≤ g then 2 else 0 := by
   rw [gotE, if_pos hbj, objectE_good h hp];congr 1
   simp; omega
  have e2 : gotE m (setOs os i f.toNat x) ⟨2, (j : Int)⟩ g = if (p.fields.length : Int) ≤ g then 2 else 0 := by
   rw [gotE, if_pos hbj', objectE_good hg2 hq];congr 1
   split <;> simp <;> omega
  have v1 : gotV m os ⟨2, (j : Int)⟩ g = if (p.fields.length : Int) ≤ g then ⟨0, 0⟩ else fieldAt os ⟨2, (j : Int)⟩ g := by
   have : objectE os ⟨2, (j : Int)⟩ g = if (p.fields.length : Int) ≤ g then 2 else 0 := by rw [← e1, gotE, if_pos hbj]
   unfold gotV;rw [this];split <;> split <;> simp_all
  have v2 : gotV m (setOs os i f.toNat x) ⟨2, (j : Int)⟩ g = if (p.fields.length : Int) ≤ g then ⟨0, 0⟩ else fieldAt (setOs os i f.toNat x) ⟨2, (j : Int)⟩ g := by
   have : objectE (setOs os i f.toNat x) ⟨2, (j : Int)⟩ g = if (p.fields.length : Int) ≤ g then 2 else 0 := by rw [← e2, gotE, if_pos hbj']
   unfold gotV;rw [this];split <;> split <;> simp_all
  refine ⟨fun ⟨h1, h2⟩ => ?_, fun hne => ⟨by rw [e1, e2], ?_⟩⟩
  ·subst h1 h2;rw [ho] at hp
   cases hp
   rw [e2, v2, if_neg (by omega), if_neg (by omega)];refine ⟨rfl, ?_⟩;simp only [fieldAt, Int.toNat_natCast, hq, if_true];have : f.toNat < o.fields.length := (by omega);simp [this]
  ·rw [v1, v2];split
   ·rfl
   ·rename_i hge
    simp only [fieldAt, Int.toNat_natCast, hq, hp];by_cases hij : i = j
    ·subst hij;have : f.toNat ≠ g.toNat := fun e => hne ⟨rfl, by omega⟩;simp [this]
    ·simp [hij]
end Go.Proofs.Ytabcjdalifhpdaa
