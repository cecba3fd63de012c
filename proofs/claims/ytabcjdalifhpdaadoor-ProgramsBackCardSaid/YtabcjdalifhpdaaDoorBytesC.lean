/- The bytes of a program as bytes; a program written in bytes that are read alone. No condition beside what is read. The walk of treadwheelkeep.codeTells. Condition: the table of operators is as the program's text lays it. -/
import Derived.Test.YtabcjdalifhpdaaDoorBytesB
import Derived.Test.YtabcjdalifhpdaaDoorEncode
import Derived.Test.YtabcjdalifhpdaaDoorDecode
import Derived.Test.YtabcjdalifhpdaaDoorKProg
namespace Go.Proofs.YtabcjdalifhpdaaDoor
section
open Go.RowKit
theorem sev_all : ∀ (n : Nat), AllB (sev n) := fun n => by
  induction n using Nat.strongRecOn with
  | ind n ih =>
    by_cases h : n < 128
    · rw [sev_lt h]
      exact fun c hc => by simp at hc; omega
    · rw [sev_ge h]
      intro c hc
      rcases List.mem_cons.1 hc with rfl | hc
      · omega
      · exact ih (n / 128) (by omega) c hc
theorem insB_all {i : Ins} (h : InsOk i) : AllB (insB i) := fun c hc => by
  have h1 := h.op
  have h2 := h.a
  have h3 := h.b
  unfold insB at hc
  rcases List.mem_cons.1 hc with rfl | hc
  · omega
  · rcases List.mem_append.1 hc with hc | hc
    · split at hc
      · simp at hc; omega
      · cases hc
    · split at hc
      · exact sev_all _ c hc
      · cases hc
theorem progB_all {ps : List (List Ins)} (h : progF ps = 0) : AllB (progB ps) := fun c hc => by
  obtain ⟨_, h6, hl⟩ := progF_ok h
  unfold progB at hc
  rcases List.mem_append.1 hc with hc | hc
  · simp at hc
    omega
  · obtain ⟨cs, hcs, hc⟩ := List.mem_flatten.1 hc
    obtain ⟨l, hml, rfl⟩ := List.mem_map.1 hcs
    obtain ⟨_, h60, hi⟩ := hl l hml
    unfold codeB at hc
    rcases List.mem_cons.1 hc with rfl | hc
    · omega
    · obtain ⟨is, his, hc⟩ := List.mem_flatten.1 hc
      obtain ⟨i, hmi, rfl⟩ := List.mem_map.1 his
      exact insB_all (hi i hmi) c hc
/-- The bytes. -/
def bytes8 (xs : List Int) : List UInt8 := xs.map (fun x => UInt8.ofNat x.toNat)
theorem I8_bytes {xs : List Int} (h : AllB xs) : I8 (bytes8 xs) = xs := by
  unfold I8 bytes8
  rw [List.map_map]
  conv => rhs; rw [← List.map_id xs]
  refine List.map_congr_left (fun x hx => ?_)
  have := h x hx
  simp
  omega
theorem U8_bcs (l : List UInt8) : U8 (I8 l) = bcs l := by simp [U8, I8, bcs, Function.comp_def]
theorem sum_le {α : Type} (f : α → List Int) (m : Nat) : ∀ l : List α, (∀ x ∈ l, (f x).length ≤ m) → ((l.map f).flatten).length ≤ l.length * m
  | [], _ => by simp
  | x :: l, h => by
    have := sum_le f m l (fun y hy => h y (by simp [hy]))
    have := h x (by simp)
    simp only [List.map_cons, List.flatten_cons, List.length_append, List.length_cons, Nat.succ_mul]
    omega
theorem progK_len {l : List Rw} {most : Int} (h : 0 ≤ most ∧ most ≤ 20) : (progB (programK l most)).length ≤ 600 := by
  have hf := programK_ok (l := l) h.1
  obtain ⟨_, _, hl⟩ := progF_ok hf
  have key : ∀ c ∈ programK l most, (codeB c).length ≤ 199 := fun c hc => by
    obtain ⟨b, rfl, hb⟩ := programK_mem h.1 hc
    have h1 := sum_le insB 8 (b ++ [doneI]) (fun i hi => insB_len ((hl _ hc).2.2 i hi).n)
    have := hb.few
    simp only [codeB, List.length_cons]
    simp only [List.length_append, List.length_singleton] at h1
    omega
  have := sum_le codeB 199 (programK l most) key
  rw [programK_len] at this
  simp only [progB, List.length_append, List.length_cons, List.length_nil]
  omega
/-- A program that may be is written; its bytes are read alone. -/
theorem encodeB_any (S : Nat → Prop) (A : Option Addr) (c : Nat) (ps : List (List Ins)) (bs : List UInt8) (w : World) (hf : progF ps = 0) (hbs : I8 bs = progB ps) (hl : bs.length ≤ 5000) (hu : UsesAt w) (hr : RdSl pgE w S (.slice A ps.length c) ps) :
    Calls Tryd.prog 37 #[.agg #[.slice A ps.length c]] w fun e w' => ∃ B d, e = .returned (.tuple #[.slice B bs.length d, .int .i64 0]) ∧ RdSl bE w' (fun b => w.heap.size ≤ b) (.slice B bs.length d) bs ∧ Below w.heap.size w w' := by
  refine (encode_any S A c ps w hu hr).mono ?_
  rintro e w' ⟨B, d, he, hown, hb⟩
  have hx : encL ps = I8 bs := by unfold encL; rw [if_pos hf, hbs]
  rw [hx, hf] at he
  rw [hx, U8_bcs] at hown
  rw [I8_len] at he hown
  exact ⟨B, d, he, own_bs hown (by omega), hb⟩
theorem RdSl.takeB {w : World} {S : Nat → Prop} {b o n c : Nat} {l : List UInt8} (h : RdSl bE w S (.slice (some ⟨b, o, none⟩) n c) l) {k : Nat} (_hk : k ≤ l.length) : RdSl bE w S (.slice (some ⟨b, o, none⟩) (l.take k).length c) (l.take k) := by
  obtain ⟨A', c', hv, h1, h2, h3, h4⟩ := h
  cases hv
  have hle : (l.take k).length ≤ l.length := by rw [List.length_take]; exact Nat.min_le_right _ _
  refine ⟨_, _, rfl, by omega, h2, Nat.le_trans (Nat.mul_le_mul_right _ hle) h3, fun hne => ?_⟩
  have hne' : l ≠ [] := fun e => hne (by rw [e]; simp)
  obtain ⟨b', o', hb, hS, hi⟩ := h4 hne'
  cases hb
  refine ⟨b, o, rfl, hS, fun i x hx => hi i x ?_⟩
  rw [List.getElem?_take] at hx
  split at hx
  · exact hx
  · cases hx
end
section
open Go.RowKit
set_option maxHeartbeats 4000000 in
theorem codeTells_any (w : World) (hu : UsesAt w) : Calls Tryd.prog 36 #[] w fun e w' => e = .returned (.bool true) ∧ Below w.heap.size w w' := by
  have Hu := Lib.hid hu
  have hf := programK_ok (l := []) (most := 2) (by omega)
  obtain ⟨ps, hps⟩ : ∃ ps, programK [] 2 = ps := ⟨_, rfl⟩
  have hb8 := I8_bytes (progB_all hf)
  have hlen := progK_len (l := []) (most := 2) (by omega)
  have h3 := programK_len [] 2
  have GP := programK_any (fun _ => True) none 0 [] 2
  rw [hps] at hf hb8 hlen h3 GP
  have hpos : 0 < (bytes8 (progB ps)).length := by rw [show (bytes8 (progB ps)).length = (progB ps).length by simp [bytes8]]; simp [progB]
  have hle : (bytes8 (progB ps)).length ≤ 5000 := by rw [show (bytes8 (progB ps)).length = (progB ps).length by simp [bytes8]]; omega
  generalize bytes8 (progB ps) = bs at *
  have HF := Lib.hid hf
  have HB8 := Lib.hid hb8
  have GG := Lib.hid GP
  have b1 : (0 : Int) < (bs.length : Int) := by omega
  clear hu hf hb8 hlen GP hps
  have T0 : St w.heap.size w w [] := St.start w (Nat.le_refl _)
  have HT := Lib.hid T0
  have hz : w.heap.size ≤ w.heap.size := by simp
  clear T0
  go_enter Tryd.func36, Tryd.ntmps36
  go_wp2_with fail
  refine (GG.out _ (by omega) (Hu.out.below HT.out.below) RdSl.nil).mono ?_
  rintro en W1 ⟨B1, d1, rfl, hrp, hb⟩
  have Hfresh := Lib.hid (HT.out)
  have hzo : w.heap.size ≤ w.heap.size := by omega
  obtain ⟨T', K'⟩ := HT.out.call hb
  replace T' : St w.heap.size w W1 [] := T'
  replace K' : Keeps w [] W1 [] := K'
  replace HT := Lib.hid T'
  clear T' K'
  clear hb
  have Hp : Hid (RdSl pgE W1 (Fr w.heap.size []) (.slice B1 3 d1) ps) := Lib.hid (hrp.fresh (by first | decide | (show 0 < 1; omega)) Hfresh.out hzo)
  clear hrp
  clear Hfresh hzo
  go_wp2_with fail
  have GE := encodeB_any _ B1 d1 ps bs W1 HF.out HB8.out hle (Hu.out.below HT.out.below) (by rw [h3]; exact Hp.out)
  rw [h3] at GE
  have HGE := Lib.hid GE
  clear GE
  refine (HGE.out).mono ?_
  rintro en W2 ⟨B2, d2, rfl, hrb, hb⟩
  obtain ⟨T', K'⟩ := HT.out.call hb
  replace T' : St w.heap.size w W2 [] := T'
  replace K' : Keeps W1 [] W2 [] := K'
  replace HT := Lib.hid T'
  replace Hp : Hid (RdSl pgE W2 (Fr w.heap.size []) (.slice B1 3 d1) ps) := Lib.hid (Hp.out.move (by decide) K')
  clear T' K'
  clear hb
  clear HGE hrb
  go_wp2_with fail
  go_ret
  exact ⟨rfl, HT.out.below⟩
end
end Go.Proofs.YtabcjdalifhpdaaDoor
