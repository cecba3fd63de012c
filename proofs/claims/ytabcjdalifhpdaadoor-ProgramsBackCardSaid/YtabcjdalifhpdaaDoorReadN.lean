/- The walk of the reader of bytes: a number. No condition beside what is read. -/
import Derived.Test.YtabcjdalifhpdaaDoorRead
namespace Go.Proofs.YtabcjdalifhpdaaDoor
open Go.RowKit

/-- What was read, and where the reader stands. -/
def ReadTo {α : Type} (bad : Int → Prop) (good : List UInt8 → Prop) (r : Except Int (α × List Int)) (P : α → Prop) : Prop :=
  match r with
  | .error e => e ≠ 0 ∧ bad e
  | .ok (a, t) => P a ∧ ∃ l, t = I8 l ∧ good l
theorem bits_and_one (n : Nat) (h : n < 4611686018427387904) : bits .and .i64 (n : Int) 1 = ((n % 2 : Nat) : Int) := by
  have := bits_and_i64_nat n 1 h (by omega)
  rw [show n &&& 1 = n % 2 from Nat.and_two_pow_sub_one_eq_mod n 1] at this
  exact this
theorem or_shifted (m x j : Nat) (hm : m < 2 ^ j) (hx : x < 128) (hj : j ≤ 42) : bits .or .i64 (m : Int) (((x * 2 ^ j : Nat) : Int)) = ((m + x * 2 ^ j : Nat) : Int) := by
  have h1 : 2 ^ j ≤ 2 ^ 42 := Nat.pow_le_pow_right (by omega) hj
  have h2 : x * 2 ^ j ≤ 127 * 2 ^ 42 := Nat.mul_le_mul (by omega) h1
  have := bits_or_i64_nat m (x * 2 ^ j) (by omega) (by omega)
  rw [this, Nat.or_comm, Nat.mul_comm x, ← Nat.two_pow_add_eq_or_of_lt hm x, Nat.add_comm]
theorem num_bad {x : UInt8} {l : List UInt8} {k : Nat} {m : Int} (h : k = 6 ∨ (0 < k ∧ x.toNat = 0)) : numF (I8 (x :: l)) k m = .error 4 := by
  rw [I8, List.map_cons, numF, if_pos (by omega)]
theorem num_last {x : UInt8} {l : List UInt8} {k : Nat} {m : Int} (h : ¬ (k = 6 ∨ (0 < k ∧ x.toNat = 0))) (hx : x.toNat < 128) : numF (I8 (x :: l)) k m = .ok (m + ((x.toNat % 128 : Nat) : Int) * 128 ^ k, I8 l) := by
  rw [I8, List.map_cons, numF, if_neg (by omega), if_pos (by omega)]
  rfl
theorem num_on {x : UInt8} {l : List UInt8} {k : Nat} {m : Int} (h : ¬ (k = 6 ∨ (0 < k ∧ x.toNat = 0))) (hx : ¬ x.toNat < 128) : numF (I8 (x :: l)) k m = numF (I8 l) (k + 1) (m + ((x.toNat % 128 : Nat) : Int) * 128 ^ k) := by
  rw [I8, List.map_cons, numF, if_neg (by omega), if_neg (by omega)]
  rfl
theorem pow_seven (k : Nat) : (128 : Nat) ^ k = 2 ^ (7 * k) := by rw [Nat.pow_mul]
theorem grown128 {m y k : Nat} (hm : m < 128 ^ k) (hy : y < 128) : m + y * 128 ^ k < 128 ^ (k + 1) := by
  have : (y + 1) * 128 ^ k ≤ 128 * 128 ^ k := Nat.mul_le_mul_right _ (by omega)
  rw [Nat.add_mul] at this
  rw [Nat.pow_succ]
  omega
theorem pow_le7 {k : Nat} (h : k ≤ 7) : (128 : Nat) ^ k ≤ 562949953421312 := Nat.le_trans (Nat.pow_le_pow_right (by omega) h) (by decide)
theorem unzz_odd {m : Nat} (h : m % 2 = 1) : unzz (m : Int) = -(((m + 1) / 2 : Nat) : Int) := by
  unfold unzz
  rw [if_pos (by omega)]
  omega
theorem unzz_even {m : Nat} (h : ¬ m % 2 = 1) : unzz (m : Int) = ((m / 2 : Nat) : Int) := by
  unfold unzz
  rw [if_neg (by omega)]
  omega

set_option maxRecDepth 100000 in
set_option maxHeartbeats 4000000 in
theorem numberR_any (g : Nat) (S : Nat → Prop) (hg : ¬ S g) (l : List UInt8) (w : World) (h : RdrAt w g S l) :
    Calls Tryd.prog 109 #[.pointer (some ⟨g, 0, none⟩)] w fun en w' => ∃ x, en = .returned (.int .i64 x) ∧ Only g w w' ∧
      ReadTo (fun e => ∃ v', rdr w' g v' e) (RdrAt w' g S) (numF (I8 l) 0 0) (fun m => x = unzz m) := by
  have Hh := Lib.hid h
  clear h
  generalize hN : numF (I8 l) 0 0 = N
  have HN := Lib.hid hN
  clear hN
  go_enter Tryd.func109, Tryd.ntmps109
  go_wp2_with fail
  go_loopw [3, 4] (fun a b wr => ∃ (k m : Nat), a = .int .i64 m ∧ b = .int .i64 k ∧ Only g w wr ∧ m < 128 ^ k ∧ k ≤ 7 ∧
      ((∃ l', k ≤ 6 ∧ RdrAt wr g S l' ∧ numF (I8 l') k m = N) ∨ (∃ e v', e ≠ 0 ∧ rdr wr g v' e ∧ N = .error e))) (fun _ b _ => 8 - (intOf b).toNat)
  case atStart => exact ⟨0, 0, rfl, rfl, Only.refl _ _, by decide, by omega, .inl ⟨l, by omega, Hh.out, HN.out⟩⟩
  case round =>
    obtain ⟨k, m, rfl, rfl, ho, hm, hk7, hst⟩ := hrel
    generalize wr = wq at *
    have Ho := Lib.hid ho
    have Hm := Lib.hid hm
    have hm7 := pow_le7 hk7
    have hmm : m < 562949953421312 := by omega
    clear ho hm hm7
    rcases hst with ⟨l', hk, hd, hn⟩ | ⟨e, v', he, hd, hn⟩
    · have c1 : wq.cell? ⟨g, 1, none⟩ = some (.int .i64 0) := by obtain ⟨v, h, -⟩ := hd; exact cell_of_row wq _ 1 _ _ _ h
      have Hn := Lib.hid hn
      have Hd := Lib.hid hd
      clear hn hd
      rcases l' with _ | ⟨x, l'⟩
      rotate_left
      · have hx256 := x.toNat_lt
        have G := Lib.hid (byte_ok g S hg x l' wq Hd.out)
        go_wp2_with fail
        refine G.out.mono ?_
        rintro en w1 ⟨rfl, ho1, hd1⟩
        have Hd0 := Lib.hid hd1
        obtain ⟨v1, hd1, -⟩ := hd1
        have c1' : w1.cell? ⟨g, 1, none⟩ = some (.int .i64 0) := cell_of_row w1 _ 1 _ _ _ hd1
        have f1 : ∀ i, w1.frozen? ⟨g, i, none⟩ = false := fun i => by unfold rdr at hd1; simp [World.frozen?, hd1]
        have Ho1 := Lib.hid (Ho.out.trans ho1)
        have Hd1 := Lib.hid hd1
        clear G ho1 hd1 c1
        go_upto_region 6 with fail
        go_cut [31] from 15 to 31 (fun s wx => s = .bool (decide (k = 6 ∨ (0 < k ∧ x.toNat = 0))) ∧ wx = w1)
        case first =>
          by_cases h6 : k = 6
          · subst h6
            go_wp2_with fail
            go_meet
            exact ⟨by simp, rfl⟩
          · have e6 : ((k : Int) == 6) = false := by simp; omega
            have d6 : decide (k = 6 ∨ (0 < k ∧ x.toNat = 0)) = (decide (0 < k) && decide (x.toNat = 0)) := by simp [h6]
            by_cases h0 : 0 < k
            · have i0' : (0 : Int) < (k : Int) := by omega
              go_wp2_with fail
              go_meet
              exact ⟨by rw [d6]; simp [h0]; first | done | (congr 1; simp) | (rw [Bool.eq_iff_iff]; simp), rfl⟩
            · obtain rfl : k = 0 := by omega
              go_wp2_with fail
              go_meet
              exact ⟨by simp, rfl⟩
        case rest =>
        obtain ⟨rfl, hwc⟩ := hcut
        rw [hwc]
        clear hwc
        have hy : x.toNat % 128 < 128 := Nat.mod_lt _ (by omega)
        have hmn := grown128 Hm.out hy
        have Hmn := Lib.hid hmn
        clear hmn
        have e1 := low_seven x.toNat (by omega)
        by_cases hC : k = 6 ∨ (0 < k ∧ x.toNat = 0)
        · have dC : decide (k = 6 ∨ (0 < k ∧ x.toNat = 0)) = true := by simpa using hC
          have HE := Lib.hid ((num_bad hC).symm.trans Hn.out)
          simp only [dC]
          clear dC hC
          go_upto_region 8 with fail
          have Ho2 := Lib.hid (Ho1.out.set 1 (.int .i64 4))
          have Hd2 := Lib.hid (rdr_set Hd1.out 4)
          clear c1' f1
          generalize w1.setCell ⟨g, 1, none⟩ (.int .i64 4) = w2 at *
          have c2 : w2.cell? ⟨g, 1, none⟩ = some (.int .i64 4) := cell_of_row w2 _ 1 _ _ _ Hd2.out
          go_cut [3] from 35 to 42 (fun s wx => s = .int .i64 ((m + x.toNat % 128 * 128 ^ k : Nat) : Int) ∧ wx = w2)
          case first =>
            have hmk := Hm.out
            rw [pow_seven] at hmk
            generalize x.toNat % 128 = y at *
            rcases (show k = 0 ∨ k = 1 ∨ k = 2 ∨ k = 3 ∨ k = 4 ∨ k = 5 ∨ k = 6 by omega) with rfl | rfl | rfl | rfl | rfl | rfl | rfl
            · have e2 : bits .or .i64 (m : Int) ((y : Int)) = ((m + y * 1 : Nat) : Int) := by have := or_shifted m y 0 hmk (by omega) (by omega); simpa using this
              obtain ⟨M, hM⟩ : ∃ M, m + y * 1 = M := ⟨_, rfl⟩
              rw [hM] at e2
              go_wp2_with fail
              go_meet
              exact ⟨by rw [← hM], rfl⟩
            · have e2 : bits .or .i64 (m : Int) ((y : Int) * 128) = ((m + y * 128 : Nat) : Int) := or_shifted m y 7 hmk (by omega) (by omega)
              obtain ⟨M, hM⟩ : ∃ M, m + y * 128 = M := ⟨_, rfl⟩
              rw [hM] at e2
              go_wp2_with fail
              go_meet
              exact ⟨by rw [← hM], rfl⟩
            · have e2 : bits .or .i64 (m : Int) ((y : Int) * 16384) = ((m + y * 16384 : Nat) : Int) := or_shifted m y 14 hmk (by omega) (by omega)
              obtain ⟨M, hM⟩ : ∃ M, m + y * 16384 = M := ⟨_, rfl⟩
              rw [hM] at e2
              go_wp2_with fail
              go_meet
              exact ⟨by rw [← hM], rfl⟩
            · have e2 : bits .or .i64 (m : Int) ((y : Int) * 2097152) = ((m + y * 2097152 : Nat) : Int) := or_shifted m y 21 hmk (by omega) (by omega)
              obtain ⟨M, hM⟩ : ∃ M, m + y * 2097152 = M := ⟨_, rfl⟩
              rw [hM] at e2
              go_wp2_with fail
              go_meet
              exact ⟨by rw [← hM], rfl⟩
            · have e2 : bits .or .i64 (m : Int) ((y : Int) * 268435456) = ((m + y * 268435456 : Nat) : Int) := or_shifted m y 28 hmk (by omega) (by omega)
              obtain ⟨M, hM⟩ : ∃ M, m + y * 268435456 = M := ⟨_, rfl⟩
              rw [hM] at e2
              go_wp2_with fail
              go_meet
              exact ⟨by rw [← hM], rfl⟩
            · have e2 : bits .or .i64 (m : Int) ((y : Int) * 34359738368) = ((m + y * 34359738368 : Nat) : Int) := or_shifted m y 35 hmk (by omega) (by omega)
              obtain ⟨M, hM⟩ : ∃ M, m + y * 34359738368 = M := ⟨_, rfl⟩
              rw [hM] at e2
              go_wp2_with fail
              go_meet
              exact ⟨by rw [← hM], rfl⟩
            · have e2 : bits .or .i64 (m : Int) ((y : Int) * 4398046511104) = ((m + y * 4398046511104 : Nat) : Int) := or_shifted m y 42 hmk (by omega) (by omega)
              obtain ⟨M, hM⟩ : ∃ M, m + y * 4398046511104 = M := ⟨_, rfl⟩
              rw [hM] at e2
              go_wp2_with fail
              go_meet
              exact ⟨by rw [← hM], rfl⟩
          case rest =>
          obtain ⟨rfl, hwc⟩ := hcut
          rw [hwc]
          clear hwc
          by_cases hl : x.toNat < 128
          · have il : (x.toNat : Int) < 128 := by omega
            obtain ⟨M, hM⟩ : ∃ M, m + x.toNat % 128 * 128 ^ k = M := ⟨_, rfl⟩
            rw [hM]
            have hMs : M < 4611686018427387904 := by have := Hmn.out; have := pow_le7 (k := k + 1) (by omega); omega
            have eM := bits_and_one M hMs
            by_cases hM2 : M % 2 = 1
            · rw [hM2] at eM
              go_wp2_with fail
              go_ret
              exact ⟨_, rfl, ⟨Ho2.out, by rw [← HE.out]; exact ⟨by decide, _, Hd2.out⟩⟩⟩
            · have hM0 : M % 2 = 0 := by omega
              rw [hM0] at eM
              go_wp2_with fail
              go_ret
              exact ⟨_, rfl, ⟨Ho2.out, by rw [← HE.out]; exact ⟨by decide, _, Hd2.out⟩⟩⟩
          · have il : ¬ (x.toNat : Int) < 128 := by omega
            go_wp2_with fail
            go_roundw
            case rel => exact ⟨k + 1, m + x.toNat % 128 * 128 ^ k, by go_num, by go_num, Ho2.out, Hmn.out, by omega, .inr ⟨4, _, by decide, Hd2.out, HE.out.symm⟩⟩
            case measure => simp [intOf]; omega
        · have dC : decide (k = 6 ∨ (0 < k ∧ x.toNat = 0)) = false := by simpa using hC
          simp only [dC]
          go_upto_region 8 with fail
          go_cut [3] from 35 to 42 (fun s wx => s = .int .i64 ((m + x.toNat % 128 * 128 ^ k : Nat) : Int) ∧ wx = w1)
          case first =>
            have hmk := Hm.out
            rw [pow_seven] at hmk
            generalize x.toNat % 128 = y at *
            rcases (show k = 0 ∨ k = 1 ∨ k = 2 ∨ k = 3 ∨ k = 4 ∨ k = 5 ∨ k = 6 by omega) with rfl | rfl | rfl | rfl | rfl | rfl | rfl
            · have e2 : bits .or .i64 (m : Int) ((y : Int)) = ((m + y * 1 : Nat) : Int) := by have := or_shifted m y 0 hmk (by omega) (by omega); simpa using this
              obtain ⟨M, hM⟩ : ∃ M, m + y * 1 = M := ⟨_, rfl⟩
              rw [hM] at e2
              go_wp2_with fail
              go_meet
              exact ⟨by rw [← hM], rfl⟩
            · have e2 : bits .or .i64 (m : Int) ((y : Int) * 128) = ((m + y * 128 : Nat) : Int) := or_shifted m y 7 hmk (by omega) (by omega)
              obtain ⟨M, hM⟩ : ∃ M, m + y * 128 = M := ⟨_, rfl⟩
              rw [hM] at e2
              go_wp2_with fail
              go_meet
              exact ⟨by rw [← hM], rfl⟩
            · have e2 : bits .or .i64 (m : Int) ((y : Int) * 16384) = ((m + y * 16384 : Nat) : Int) := or_shifted m y 14 hmk (by omega) (by omega)
              obtain ⟨M, hM⟩ : ∃ M, m + y * 16384 = M := ⟨_, rfl⟩
              rw [hM] at e2
              go_wp2_with fail
              go_meet
              exact ⟨by rw [← hM], rfl⟩
            · have e2 : bits .or .i64 (m : Int) ((y : Int) * 2097152) = ((m + y * 2097152 : Nat) : Int) := or_shifted m y 21 hmk (by omega) (by omega)
              obtain ⟨M, hM⟩ : ∃ M, m + y * 2097152 = M := ⟨_, rfl⟩
              rw [hM] at e2
              go_wp2_with fail
              go_meet
              exact ⟨by rw [← hM], rfl⟩
            · have e2 : bits .or .i64 (m : Int) ((y : Int) * 268435456) = ((m + y * 268435456 : Nat) : Int) := or_shifted m y 28 hmk (by omega) (by omega)
              obtain ⟨M, hM⟩ : ∃ M, m + y * 268435456 = M := ⟨_, rfl⟩
              rw [hM] at e2
              go_wp2_with fail
              go_meet
              exact ⟨by rw [← hM], rfl⟩
            · have e2 : bits .or .i64 (m : Int) ((y : Int) * 34359738368) = ((m + y * 34359738368 : Nat) : Int) := or_shifted m y 35 hmk (by omega) (by omega)
              obtain ⟨M, hM⟩ : ∃ M, m + y * 34359738368 = M := ⟨_, rfl⟩
              rw [hM] at e2
              go_wp2_with fail
              go_meet
              exact ⟨by rw [← hM], rfl⟩
            · have e2 : bits .or .i64 (m : Int) ((y : Int) * 4398046511104) = ((m + y * 4398046511104 : Nat) : Int) := or_shifted m y 42 hmk (by omega) (by omega)
              obtain ⟨M, hM⟩ : ∃ M, m + y * 4398046511104 = M := ⟨_, rfl⟩
              rw [hM] at e2
              go_wp2_with fail
              go_meet
              exact ⟨by rw [← hM], rfl⟩
          case rest =>
          obtain ⟨rfl, hwc⟩ := hcut
          rw [hwc]
          clear hwc
          by_cases hl : x.toNat < 128
          · have il : (x.toNat : Int) < 128 := by omega
            have HE := Lib.hid ((num_last hC hl).symm.trans Hn.out)
            obtain ⟨M, hM⟩ : ∃ M, m + x.toNat % 128 * 128 ^ k = M := ⟨_, rfl⟩
            rw [hM]
            have hMs : M < 4611686018427387904 := by have := Hmn.out; have := pow_le7 (k := k + 1) (by omega); omega
            have eM := bits_and_one M hMs
            have hMi : (m : Int) + ((x.toNat % 128 : Nat) : Int) * 128 ^ k = (M : Int) := by rw [← hM]; simp
            have HMi := Lib.hid hMi
            clear hMi
            by_cases hM2 : M % 2 = 1
            · have HU := Lib.hid (unzz_odd hM2)
              rw [hM2] at eM
              go_wp2_with fail
              go_ret
              refine ⟨_, rfl, Ho1.out, ?_⟩
              rw [← HE.out]
              exact ⟨by show _ = unzz _; rw [HMi.out, HU.out]; first | omega | (rw [Int.tdiv_eq_ediv_of_nonneg (by omega)]; unfold wrap64; omega), l', rfl, Hd0.out⟩
            · have HU := Lib.hid (unzz_even hM2)
              have hM0 : M % 2 = 0 := by omega
              rw [hM0] at eM
              go_wp2_with fail
              go_ret
              refine ⟨_, rfl, Ho1.out, ?_⟩
              rw [← HE.out]
              exact ⟨by show _ = unzz _; rw [HMi.out, HU.out]; first | omega | (rw [Int.tdiv_eq_ediv_of_nonneg (by omega)]; unfold wrap64; omega), l', rfl, Hd0.out⟩
          · have il : ¬ (x.toNat : Int) < 128 := by omega
            have HE := Lib.hid ((num_on hC hl).symm.trans Hn.out)
            have hk6 : k + 1 ≤ 6 := by omega
            clear dC hC
            go_wp2_with fail
            go_roundw
            case rel => exact ⟨k + 1, m + x.toNat % 128 * 128 ^ k, by go_num, by go_num, Ho1.out, Hmn.out, by omega, .inl ⟨l', hk6, Hd0.out, by have := HE.out; simpa using this⟩⟩
            case measure => simp [intOf]; omega
      · have HE := Lib.hid Hn.out
        have G := Lib.hid (byte_no g S wq Hd.out)
        have hmn := grown128 (y := 0) Hm.out (by omega)
        have Hmn := Lib.hid hmn
        clear hmn
        go_wp2_with fail
        refine G.out.mono ?_
        rintro en w1 ⟨rfl, ho1, v1, hd1⟩
        have c1' : w1.cell? ⟨g, 1, none⟩ = some (.int .i64 5) := cell_of_row w1 _ 1 _ _ _ hd1
        have Ho1 := Lib.hid (Ho.out.trans ho1)
        have Hd1 := Lib.hid hd1
        clear G ho1 hd1 c1
        have e1 : bits .and .i64 0 127 = 0 := by decide
        go_upto_region 8 with fail
        go_cut [3] from 35 to 42 (fun s wx => s = .int .i64 ((m : Nat) : Int) ∧ wx = w1)
        case first =>
          have hmk := Hm.out
          rw [pow_seven] at hmk
          rcases (show k = 0 ∨ k = 1 ∨ k = 2 ∨ k = 3 ∨ k = 4 ∨ k = 5 ∨ k = 6 by omega) with rfl | rfl | rfl | rfl | rfl | rfl | rfl
          · have e2 : bits .or .i64 (m : Int) (0) = (m : Int) := by have := or_shifted m 0 0 hmk (by omega) (by omega); simpa using this
            go_wp2_with fail
            go_meet
            exact ⟨rfl, rfl⟩
          · have e2 : bits .or .i64 (m : Int) (0) = (m : Int) := by have := or_shifted m 0 7 hmk (by omega) (by omega); simpa using this
            go_wp2_with fail
            go_meet
            exact ⟨rfl, rfl⟩
          · have e2 : bits .or .i64 (m : Int) (0) = (m : Int) := by have := or_shifted m 0 14 hmk (by omega) (by omega); simpa using this
            go_wp2_with fail
            go_meet
            exact ⟨rfl, rfl⟩
          · have e2 : bits .or .i64 (m : Int) (0) = (m : Int) := by have := or_shifted m 0 21 hmk (by omega) (by omega); simpa using this
            go_wp2_with fail
            go_meet
            exact ⟨rfl, rfl⟩
          · have e2 : bits .or .i64 (m : Int) (0) = (m : Int) := by have := or_shifted m 0 28 hmk (by omega) (by omega); simpa using this
            go_wp2_with fail
            go_meet
            exact ⟨rfl, rfl⟩
          · have e2 : bits .or .i64 (m : Int) (0) = (m : Int) := by have := or_shifted m 0 35 hmk (by omega) (by omega); simpa using this
            go_wp2_with fail
            go_meet
            exact ⟨rfl, rfl⟩
          · have e2 : bits .or .i64 (m : Int) (0) = (m : Int) := by have := or_shifted m 0 42 hmk (by omega) (by omega); simpa using this
            go_wp2_with fail
            go_meet
            exact ⟨rfl, rfl⟩
        case rest =>
        obtain ⟨rfl, hwc⟩ := hcut
        rw [hwc]
        clear hwc
        obtain ⟨M, hM⟩ : ∃ M, m = M := ⟨_, rfl⟩
        rw [hM]
        have hMs : M < 4611686018427387904 := by have := Hmn.out; have := pow_le7 (k := k + 1) (by omega); omega
        have eM := bits_and_one M hMs
        by_cases hM2 : M % 2 = 1
        · rw [hM2] at eM
          go_wp2_with fail
          go_ret
          exact ⟨_, rfl, ⟨Ho1.out, by rw [← HE.out]; exact ⟨by decide, _, Hd1.out⟩⟩⟩
        · have hM0 : M % 2 = 0 := by omega
          rw [hM0] at eM
          go_wp2_with fail
          go_ret
          exact ⟨_, rfl, ⟨Ho1.out, by rw [← HE.out]; exact ⟨by decide, _, Hd1.out⟩⟩⟩
    · have c1 : wq.cell? ⟨g, 1, none⟩ = some (.int .i64 e) := cell_of_row wq _ 1 _ _ _ hd
      have he0 : (e == 0) = false := by simpa using he
      have Hd := Lib.hid hd
      have HE := Lib.hid hn
      clear hd hn
      obtain ⟨M, hM⟩ : ∃ M, m = M := ⟨_, rfl⟩
      rw [hM]
      have hMs : M < 4611686018427387904 := by have := hmm; omega
      have eM := bits_and_one M hMs
      by_cases hM2 : M % 2 = 1
      · rw [hM2] at eM
        go_wp2_with fail
        go_ret
        exact ⟨_, rfl, ⟨Ho.out, by rw [HE.out]; exact ⟨he, _, Hd.out⟩⟩⟩
      · have hM0 : M % 2 = 0 := by omega
        rw [hM0] at eM
        go_wp2_with fail
        go_ret
        exact ⟨_, rfl, ⟨Ho.out, by rw [HE.out]; exact ⟨he, _, Hd.out⟩⟩⟩
end Go.Proofs.YtabcjdalifhpdaaDoor
