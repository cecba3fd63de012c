/- What treadwheelkeep.Form tells, step by step, is the form: plain Lean. No condition; no run. -/
import Derived.Test.YtabcjdalifhpdaaFormP
import Derived.Test.YtabcjdalifhpdaaFormS
namespace Go.Proofs.Ytabcjdalifhpdaa
open Go.RowKit
def sayQs : List Int → List V → List Int
 | ord, [] => ord
 | ord, v :: l => sayQs (sayQ ord v) l
def sayOs : List Int → List Int → List V → List Int
 | out, _, [] => out
 | out, ord, v :: l => sayOs (sayO out ord v) (sayQ ord v) l
theorem sayQ_fresh (ord : List Int) (v : V) : sayQ ord v = if fresh ord v then ord ++ [v.n] else ord := by
 unfold sayQ fresh;by_cases h1 : v.k = 2 <;> by_cases h2 : v.n ∈ ord <;> simp [h1, h2]
theorem sayQs_come : ∀ (l : List V) (ord : List Int), sayQs ord l = come ord l
 | [], _ => rfl
 | v :: l, ord => by
  simp only [sayQs, come];rw [sayQs_come l, sayQ_fresh];split <;> rfl
theorem sayQs_snoc : ∀ (l : List V) (ord : List Int) (x : V), sayQs ord (l ++ [x]) = sayQ (sayQs ord l) x
 | [], _, _ => rfl
 | _ :: l, _, x => sayQs_snoc l _ x
theorem sayOs_snoc : ∀ (l : List V) (out ord : List Int) (x : V), sayOs out ord (l ++ [x]) = sayO (sayOs out ord l) (sayQs ord l) x
 | [], _, _, _ => rfl
 | _ :: l, _, _, x => sayOs_snoc l _ _ x
theorem say_take {l : List V} {k : Nat} {x : V} (h : l[k]? = some x) (out ord : List Int) : sayQs ord (l.take (k + 1)) = sayQ (sayQs ord (l.take k)) x ∧ sayOs out ord (l.take (k + 1)) = sayO (sayOs out ord (l.take k)) (sayQs ord (l.take k)) x := by
 rw [List.take_add_one, h];exact ⟨sayQs_snoc _ _ _, sayOs_snoc _ _ _ _⟩
theorem sayO_len (out ord : List Int) (v : V) : (sayO out ord v).length = out.length + 2 := by
 unfold sayO;split <;> simp
theorem sayOs_len : ∀ (l : List V) (out ord : List Int), (sayOs out ord l).length = out.length + 2 * l.length
 | [], _, _ => rfl
 | v :: l, out, ord => by
  simp only [sayOs];rw [sayOs_len l, sayO_len];simp
  omega
theorem sayQs_pre (ord : List Int) (l : List V) : ∃ nw, sayQs ord l = ord ++ nw := by
 rw [sayQs_come];exact come_pre l ord
theorem sayQs_told {n : Nat} {ord : List Int} {l : List V} (h : Told n ord) (hr : RefsIn n l) : Told n (sayQs ord l) := by
 rw [sayQs_come];exact h.come hr
theorem sayO_enc {out ord r : List Int} {v : V} (hr : ∃ s, r = sayQ ord v ++ s) : sayO out ord v = out ++ encV r v := by
 obtain ⟨s, rfl⟩ := hr;unfold sayO encV;by_cases hk : v.k = 2
 ·rw [if_pos hk, if_pos hk];have hm : v.n ∈ sayQ ord v := by
   unfold sayQ;by_cases h2 : v.n ∈ ord
   ·rw [if_neg (fun h => h.2 h2)]; exact h2
   ·rw [if_pos ⟨hk, h2⟩]; simp
  unfold plM;rw [if_pos hm, List.idxOf_append, if_pos hm];simp
 ·rw [if_neg hk, if_neg hk]
theorem sayOs_enc : ∀ {l : List V} {out ord r : List Int}, (∃ s, r = sayQs ord l ++ s) → sayOs out ord l = out ++ encL r l
 | [], out, ord, r, _ => by simp [sayOs, encL]
 | v :: l, out, ord, r, h => by
  obtain ⟨s, hs⟩ := h;obtain ⟨nw, hn⟩ := sayQs_pre (sayQ ord v) l;simp only [sayOs];rw [sayOs_enc (l := l) (r := r) ⟨s, hs⟩, sayO_enc (r := r) ⟨nw ++ s, by rw [hs]; simp only [sayQs]; rw [hn, List.append_assoc]⟩];simp [encL]
structure FormI (os : List Ob) (roots : List V) (k : Nat) (out ord : List Int) : Prop where
 led : ∀ r, Led os (flatF os (ord.drop k)) ord r → Led os roots [] r
 form : ∀ r, (∃ s, r = ord ++ s) → out = encL r roots ++ ((r.take k).map (objF os r)).flatten
 told : Told os.length ord
 le : k ≤ ord.length
 len : out.length ≤ 2 * roots.length + 10 * k
theorem FormI.start {os : List Ob} {roots : List V} (h : RefsIn os.length roots) : FormI os roots 0 (sayOs [] [] roots) (sayQs [] roots) := by
 refine ⟨fun r hl => ?_, fun r hr => ?_, sayQs_told Told.nil h, Nat.zero_le _, by rw [sayOs_len]; simp⟩
 ·have := Led.row (os := os) (l := roots) (rest := []) (out := []) (nw := sayQs [] roots) (r := r) (by rw [← sayQs_come]; rfl) (by simpa using hl);simpa using this
 ·rw [sayOs_enc (r := r) hr];simp
theorem FormI.next {os : List Ob} {roots : List V} {k : Nat} {out ord : List Int} (h : FormI os roots k out ord) (hs : ∀ o ∈ os, o.fields.length ≤ 4) (hf : ∀ o ∈ os, RefsIn os.length o.fields) {x : Int} (hx : ord[k]? = some x) :
  FormI os roots (k + 1) (sayOs (out ++ [-1, ((fieldsOf os x).length : Int)]) ord (fieldsOf os x)) (sayQs ord (fieldsOf os x)) := by
 have hk : k < ord.length := (List.getElem?_eq_some_iff.1 hx).1;obtain ⟨nw, hn⟩ := sayQs_pre ord (fieldsOf os x);have h4 : (fieldsOf os x).length ≤ 4 := by
  unfold fieldsOf;split
  ·rename_i o ho; exact hs o (List.mem_of_getElem? ho)
  ·simp
 have hd : ord.drop k = x :: ord.drop (k + 1) := by
  rw [List.drop_eq_getElem_cons hk];congr 1
  rw [List.getElem?_eq_getElem hk] at hx;exact Option.some.inj hx
 refine ⟨fun r hl => h.led r ?_, fun r hr => ?_, sayQs_told h.told (refs_fields hf x), by rw [hn]; simp; omega, ?_⟩
 ·rw [hn, List.drop_append_of_le_length (by omega), flatF_append] at hl;rw [hd, show flatF os (x :: ord.drop (k + 1)) = fieldsOf os x ++ flatF os (ord.drop (k + 1)) by simp [flatF]];exact Led.row (nw := nw) (by rw [← sayQs_come]; exact hn) hl
 ·obtain ⟨s, hs'⟩ := hr;rw [sayOs_enc (r := r) ⟨s, hs'⟩, h.form r ⟨nw ++ s, by rw [hs', hn, List.append_assoc]⟩];have hrx : r[k]? = some x := by
   rw [hs', hn, List.append_assoc, List.getElem?_append_left hk]; exact hx
  rw [List.take_add_one, hrx];simp [objF, List.append_assoc]
 ·rw [sayOs_len];have := h.len;simp
  omega
theorem FormI.done {os : List Ob} {roots : List V} {k : Nat} {out ord : List Int} (h : FormI os roots k out ord) (hk : ¬ k < ord.length) : out = formL os roots := by
 have e : k = ord.length := (by have := h.le; omega);have hl : Led os roots [] ord := h.led ord (by rw [e, List.drop_length]; exact .done _);have := h.form ord ⟨[], by simp⟩;rw [this, e, List.take_length];unfold formL formR;rw [reachL_is hl]
end Go.Proofs.Ytabcjdalifhpdaa
