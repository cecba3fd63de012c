/- The walk of the document's answer to heap.Check: it computes the plain function of SpecH, too. No condition beside what is read. -/
import Derived.Test.YtfafnjkinolkmaaHeapB
namespace Go.Proofs.Ytfafnjkinolkmaa
open Go.RowKit

theorem in_is (n l h : Int) (b : Bool) (hb : Hid ((decide (l ≤ n) && decide (n ≤ h)) = b)) (w : World) :
    Calls Try.prog 55 #[.int .i64 n, .int .i64 l, .int .i64 h] w fun e w' => e = .returned (.bool b) ∧ w = w' :=
  (in_any n l h w).mono fun _ _ ⟨he, h⟩ => ⟨by rw [he, hb.out], h⟩

set_option maxHeartbeats 400000 in
theorem valueMay_any (n : Nat) (hn : n ≤ 9223372036854775807) (x : V) (w : World) :
    Calls Try.prog 56 #[.agg #[.int .i64 x.k, .int .i64 x.n], .int .i64 (n : Int)] w fun e w' => e = .returned (.bool (valB n x)) ∧ Below w.heap.size w w' := by
  obtain ⟨k, y⟩ := x
  go_enter Try.func56, Try.ntmps56
  go_wp2_with (refine (in_any _ _ _ _).mono ?_; rintro e w' ⟨rfl, rfl⟩)
  all_goals
    go_ret
    refine ⟨ret_bool ?_, (Below.refl _ _).alloc (Nat.le_refl _) _⟩
    rw [Bool.eq_iff_iff]
    simp_all [valB, wordB] <;> omega
theorem valueMay_is (n : Nat) (hn : n ≤ 9223372036854775807) (x : V) (b : Bool) (hb : Hid (valB n x = b)) (w : World) :
    Calls Try.prog 56 #[.agg #[.int .i64 x.k, .int .i64 x.n], .int .i64 (n : Int)] w fun e w' => e = .returned (.bool b) ∧ Below w.heap.size w w' :=
  (valueMay_any n hn x w).mono fun _ _ ⟨he, h⟩ => ⟨by rw [he, hb.out], h⟩

set_option maxHeartbeats 4000000 in
theorem heapMay_any (m : Int) (S T : Nat → Prop) (A R : Option Addr) (c d : Nat) (os : List Ob) (rs : List V) (w : World) (ho : RdSl obE w S (.slice A os.length c) os) (hq : RdSl vE w T (.slice R rs.length d) rs) :
    Calls Try.prog 42 #[.agg #[.int .i64 m, .slice A os.length c], .slice R rs.length d] w fun e w' => e = .returned (.bool (hpB ⟨m, os⟩ rs)) ∧ Below w.heap.size w w' := by
  obtain ⟨-, h1, h2, h3⟩ := ho.lims
  obtain ⟨-, h4, h5, h6⟩ := hq.lims
  have hn : os.length ≤ 9223372036854775807 := by omega
  have Ho := Lib.hid ho
  have Hq := Lib.hid hq
  clear ho hq h3 h6
  by_cases hl : 0 ≤ m ∧ m ≤ 60 ∧ (os.length : Int) ≤ m
  · obtain ⟨l1, l2, l3⟩ := hl
    have E1 := Lib.hid (show (decide (0 ≤ m) && decide (m ≤ 60)) = true by simp [l1, l2])
    go_enter Try.func42, Try.ntmps42
    go_wp2_with (refine (in_is _ _ _ _ E1 _).mono ?_; rintro e w' ⟨rfl, rfl⟩)
    go_loopw [6, 7, 8] (fun i _ _ wr => ∃ k : Nat, k ≤ os.length ∧ i = .int .i64 k ∧ (os.take k).all (obB os.length) = true ∧ Below (w.heap.size + 1) (w.alloc (.cells #[.int .i64 m, .slice A os.length c] 26)) wr) (fun i _ _ _ => os.length - (intOf i).toNat)
    case atStart => exact ⟨0, by omega, rfl, by simp, Below.refl _ _⟩
    case round =>
      obtain ⟨k, hk, rfl, hall, hb⟩ := hrel
      have Hall := Lib.hid hall
      clear hall
      have hb' : Below w.heap.size w wr := ((Below.refl _ _).alloc (Nat.le_refl _) _).trans (hb.mono (by omega))
      have k0 : wr.cell? ⟨w.heap.size, 0, none⟩ = some (.int .i64 m) := (hb.cell (p := ⟨w.heap.size, 0, none⟩) (by simp)).trans (by simp [go_sem])
      have k1 : wr.cell? ⟨w.heap.size, 1, none⟩ = some (.slice A os.length c) := (hb.cell (p := ⟨w.heap.size, 1, none⟩) (by simp)).trans (by simp [go_sem])
      by_cases hlt : k < os.length
      · obtain ⟨x, hx⟩ : ∃ x, os[k]? = some x := ⟨os[k], List.getElem?_eq_getElem hlt⟩
        obtain ⟨b, o, B, e, rfl, _, hbs, g0, g1, hf⟩ := (Ho.out.below (by decide) hb').at_o hx
        obtain ⟨-, f1, f2, f3⟩ := hf.lims
        have Hx := Lib.hid hx
        have Hf := Lib.hid hf
        clear hx hf f3
        by_cases good : (x.dead = true ∧ x.fields.length = 0) ∨ (x.dead = false ∧ 1 ≤ x.fields.length ∧ x.fields.length ≤ 4)
        · have hgood : ∀ p : Bool, x.fields.all (valB os.length) = p → obB os.length x = p := by
            intro p hp
            rcases good with ⟨q1, q2⟩ | ⟨q1, q2, q3⟩
            · simp [obB, q1, q2, hp]
            · have : 0 < x.fields.length := q2
              simp [obB, q1, q3, hp, this]
          have Hgood := Lib.hid hgood
          clear hgood
          have E2 : Hid (x.dead = false → (decide ((1 : Int) ≤ (x.fields.length : Int)) && decide ((x.fields.length : Int) ≤ 4)) = true) := by
            intro hd
            rcases good with ⟨q1, q2⟩ | ⟨q1, q2, q3⟩
            · rw [q1] at hd; cases hd
            · simp; omega
          rcases good with ⟨q1, q2⟩ | ⟨q1, q2, q3⟩
          all_goals
            rw [q1] at g1
            have Q1 := Lib.hid q1
            clear q1
          focus
            have q2' : ¬ 0 < x.fields.length := by omega
            have Q2 := Lib.hid q2
            clear q2
            go_wp2
          rotate_left
          focus
            go_wp2_with (refine (in_is _ _ _ _ (E2.out Q1.out) _).mono ?_; rintro e w' ⟨rfl, rfl⟩)
          all_goals
            go_loopw [8] (fun i w2 => ∃ j : Nat, j ≤ x.fields.length ∧ i = .int .i64 j ∧ (x.fields.take j).all (valB os.length) = true ∧ Below wr.heap.size wr w2) (fun i _ => x.fields.length - (intOf i).toNat)
            case atStart => exact ⟨0, by omega, rfl, by simp, Below.refl _ _⟩
            case round =>
              obtain ⟨j, hj, rfl, hall2, hb2⟩ := hrel
              have Hall2 := Lib.hid hall2
              clear hall2
              by_cases hlt2 : j < x.fields.length
              · obtain ⟨y, hy⟩ : ∃ y, x.fields[j]? = some y := ⟨x.fields[j], List.getElem?_eq_getElem hlt2⟩
                obtain ⟨b2, o2, rfl, _, hbs2, y0, y1⟩ := (Hf.out.below (by decide) hb2).at_v hy
                have Hy := Lib.hid hy
                clear hy
                cases hv : valB os.length y
                all_goals
                  have Hv := Lib.hid hv
                  clear hv
                  go_wp2_with (refine (valueMay_is os.length hn y _ Hv _).mono ?_; rintro e w' ⟨rfl, hb3⟩)
                · go_ret
                  exact ⟨ret_bool (by simp only [hpB]; rw [all_not Hx.out (Hgood.out _ (all_not Hy.out Hv.out))]; simp), (hb'.trans (hb2.mono hb'.size)).trans (hb3.mono (by have := hb'.size; have := hb2.size; omega))⟩
                · go_roundw
                  case rel => exact ⟨j + 1, by omega, by go_num, all_take_succ Hy.out Hall2.out Hv.out, hb2.trans (hb3.mono hb2.size)⟩
                  case measure => simp [intOf]; omega
              · have hA : x.fields.all (valB os.length) = true := by have := Hall2.out; rwa [List.take_of_length_le (by omega)] at this
                have HA := Lib.hid hA
                clear hA
                go_wp2
                go_roundw
                case rel => exact ⟨k + 1, by omega, by go_num, all_take_succ Hx.out Hall.out (Hgood.out _ HA.out), hb.trans (hb2.mono (by have := hb.size; simp at this; omega))⟩
                case measure => simp [intOf]; omega
        · have hbad : obB os.length x = false := by
            rw [Bool.eq_false_iff]
            intro hc
            simp only [obB, Bool.and_eq_true, decide_eq_true_eq, bne_iff_ne] at hc
            apply good
            obtain ⟨⟨c1, _⟩, c2⟩ := hc
            cases hd : x.dead with
            | true => rw [hd] at c2; left; simp at c2; exact ⟨rfl, by simp [c2]⟩
            | false => rw [hd] at c2; right; simp at c2; exact ⟨rfl, by have := List.length_pos_iff.2 c2; omega, c1⟩
          have Hbad := Lib.hid (show hpB ⟨m, os⟩ rs = false by simp only [hpB]; rw [all_not Hx.out hbad]; simp)
          clear hbad
          cases hd : x.dead
          all_goals
            rw [hd] at g1
            have Hd := Lib.hid hd
            clear hd
          · have E3 : Hid ((decide ((1 : Int) ≤ (x.fields.length : Int)) && decide ((x.fields.length : Int) ≤ 4)) = false) := by
              show _ = _
              rw [Bool.eq_false_iff]
              intro hc
              simp at hc
              exact good (.inr ⟨Hd.out, by omega, by omega⟩)
            clear good
            go_wp2_with (refine (in_is _ _ _ _ E3 _).mono ?_; rintro e w' ⟨rfl, rfl⟩)
            go_ret
            exact ⟨ret_bool Hbad.out.symm, hb'⟩
          · have q2 : 0 < x.fields.length := by
              rcases Nat.eq_zero_or_pos x.fields.length with h | h
              · exact absurd (.inl ⟨Hd.out, h⟩) good
              · exact h
            clear good
            go_wp2
            go_ret
            exact ⟨ret_bool Hbad.out.symm, hb'⟩
      · have hA : os.all (obB os.length) = true := by have := Hall.out; rwa [List.take_of_length_le (by omega)] at this
        have HA := Lib.hid hA
        clear hA
        go_wp2
        go_loopw [9] (fun i w2 => ∃ j : Nat, j ≤ rs.length ∧ i = .int .i64 j ∧ (rs.take j).all (valB os.length) = true ∧ Below wr.heap.size wr w2) (fun i _ => rs.length - (intOf i).toNat)
        case atStart => exact ⟨0, by omega, rfl, by simp, Below.refl _ _⟩
        case round =>
          obtain ⟨j, hj, rfl, hall2, hb2⟩ := hrel
          have Hall2 := Lib.hid hall2
          clear hall2
          by_cases hlt2 : j < rs.length
          · obtain ⟨y, hy⟩ : ∃ y, rs[j]? = some y := ⟨rs[j], List.getElem?_eq_getElem hlt2⟩
            obtain ⟨b2, o2, rfl, _, hbs2, y0, y1⟩ := ((Hq.out.below (by decide) hb').below (by decide) hb2).at_v hy
            have Hy := Lib.hid hy
            clear hy
            cases hv : valB os.length y
            all_goals
              have Hv := Lib.hid hv
              clear hv
              go_wp2_with (refine (valueMay_is os.length hn y _ Hv _).mono ?_; rintro e w' ⟨rfl, hb3⟩)
            · go_ret
              exact ⟨ret_bool (by simp only [hpB]; rw [all_not Hy.out Hv.out]; simp), (hb'.trans (hb2.mono hb'.size)).trans (hb3.mono (by have := hb'.size; have := hb2.size; omega))⟩
            · go_roundw
              case rel => exact ⟨j + 1, by omega, by go_num, all_take_succ Hy.out Hall2.out Hv.out, hb2.trans (hb3.mono hb2.size)⟩
              case measure => simp [intOf]; omega
          · have hB : rs.all (valB os.length) = true := by have := Hall2.out; rwa [List.take_of_length_le (by omega)] at this
            have HB := Lib.hid hB
            clear hB
            go_wp2
            go_ret
            exact ⟨ret_bool (by simp only [hpB, HA.out, HB.out, limB]; simp [l1, l2, l3]), hb'.trans (hb2.mono hb'.size)⟩
  · have hL : hpB ⟨m, os⟩ rs = false := by
      have : limB ⟨m, os⟩ = false := by simp only [limB, Bool.and_eq_false_iff, decide_eq_false_iff_not]; omega
      simp [hpB, this]
    have HL := Lib.hid hL
    clear hL
    by_cases h7 : 0 ≤ m ∧ m ≤ 60
    · have E1 := Lib.hid (show (decide (0 ≤ m) && decide (m ≤ 60)) = true by simp [h7.1, h7.2])
      have l3 : m < (os.length : Int) := by omega
      clear h7 hl
      go_enter Try.func42, Try.ntmps42
      go_wp2_with (refine (in_is _ _ _ _ E1 _).mono ?_; rintro e w' ⟨rfl, rfl⟩)
      go_ret
      exact ⟨ret_bool HL.out.symm, (Below.refl _ _).alloc (Nat.le_refl _) _⟩
    · have E1 := Lib.hid (show (decide (0 ≤ m) && decide (m ≤ 60)) = false by simp; omega)
      clear h7 hl
      go_enter Try.func42, Try.ntmps42
      go_wp2_with (refine (in_is _ _ _ _ E1 _).mono ?_; rintro e w' ⟨rfl, rfl⟩)
      go_ret
      exact ⟨ret_bool HL.out.symm, (Below.refl _ _).alloc (Nat.le_refl _) _⟩

end Go.Proofs.Ytfafnjkinolkmaa
