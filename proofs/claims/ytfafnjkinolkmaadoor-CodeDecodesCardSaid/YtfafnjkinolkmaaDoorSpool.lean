/- The walks of the document's spool of bytes: a byte, a number. No condition beside what is read. -/
import Derived.Test.YtfafnjkinolkmaaDoorReadN
import Derived.Test.YtfafnjkinolkmaaDoorDecL
namespace Go.Proofs.YtfafnjkinolkmaaDoor
open Go.RowKit

theorem drop_at {l : List UInt8} {i : Nat} {x : UInt8} (h : l[i]? = some x) : l.drop i = x :: l.drop (i + 1) := by
  obtain ⟨hl, hx⟩ := List.getElem?_eq_some_iff.1 h
  rw [List.drop_eq_getElem_cons hl, hx]
theorem Only.drewN {g : Nat} {w w' : World} (h : Only g w w') (n : Nat) : Only g w (w'.drewN n) := ⟨h.os, h.tape, h.output, h.size, h.block⟩
/-- The spool's block. -/
def spl (w : World) (g : Nat) (v : Value) (i : Nat) (e : Int) : Prop := w.heap[g]? = some (.cells #[v, .int .i64 i, .int .i64 e] 83 (0, 0))
theorem spl_set1 {w : World} {g i : Nat} {v : Value} {e : Int} (h : spl w g v i e) (i' : Nat) : spl (w.setCell ⟨g, 1, none⟩ (.int .i64 i')) g v i' e := blk_set h _
theorem spl_set2 {w : World} {g i : Nat} {v : Value} {e : Int} (h : spl w g v i e) (e' : Int) : spl (w.setCell ⟨g, 2, none⟩ (.int .i64 e')) g v i e' := blk_set h _
set_option maxHeartbeats 1000000 in
theorem one_bad (g i : Nat) (v : Value) (e : Int) (w : World) (h : spl w g v i e) (he : e ≠ 0) : Calls Tryd.prog 50 #[.pointer (some ⟨g, 0, none⟩)] w fun en w' => en = .returned (.int .i64 0) ∧ Only g w w' ∧ spl w' g v i e := by
  have c0 : w.cell? ⟨g, 0, none⟩ = some v := cell_of_row w _ 0 _ _ _ h
  have c1 : w.cell? ⟨g, 1, none⟩ = some (.int .i64 i) := cell_of_row w _ 1 _ _ _ h
  have c2 : w.cell? ⟨g, 2, none⟩ = some (.int .i64 e) := cell_of_row w _ 2 _ _ _ h
  have he0 : (e == 0) = false := by simpa using he
  have he1 : (e != 0) = true := by simpa using he
  have Hh := Lib.hid h
  clear h he
  go_enter Tryd.func50, Tryd.ntmps50
  go_wp2
  go_quiet (fail)
  go_wp2
  go_ret
  exact ⟨rfl, (Only.refl g w).drewN _, Hh.out⟩
set_option maxHeartbeats 1000000 in
theorem one_end (g i : Nat) (A : Option Addr) (n c : Nat) (w : World) (h : spl w g (.slice A n c) i 0) (hi : n ≤ i) (_hs : i ≤ 1000000) :
    Calls Tryd.prog 50 #[.pointer (some ⟨g, 0, none⟩)] w fun en w' => en = .returned (.int .i64 0) ∧ Only g w w' ∧ spl w' g (.slice A n c) i 5 := by
  have c0 : w.cell? ⟨g, 0, none⟩ = some (.slice A n c) := cell_of_row w _ 0 _ _ _ h
  have c1 : w.cell? ⟨g, 1, none⟩ = some (.int .i64 i) := cell_of_row w _ 1 _ _ _ h
  have c2 : w.cell? ⟨g, 2, none⟩ = some (.int .i64 0) := cell_of_row w _ 2 _ _ _ h
  have f0 : ∀ i, w.frozen? ⟨g, i, none⟩ = false := fun i => by unfold spl at h; simp [World.frozen?, h]
  have i1 : (n : Int) ≤ (i : Int) := by omega
  have Hh := Lib.hid h
  clear h
  go_enter Tryd.func50, Tryd.ntmps50
  go_wp2
  go_quiet (fail)
  go_wp2
  go_ret
  exact ⟨rfl, ((Only.refl g w).drewN _).set _ _, spl_set2 (w := w.drewN nq) Hh.out _⟩
set_option maxHeartbeats 1000000 in
theorem one_ok (g i : Nat) (S : Nat → Prop) (hg : ¬ S g) (A : Option Addr) (n c : Nat) (l : List UInt8) (x : UInt8) (w : World) (h : spl w g (.slice A n c) i 0) (hr : RdSl bE w S (.slice A n c) l) (hx : l[i]? = some x) (hs : i ≤ 1000000) :
    Calls Tryd.prog 50 #[.pointer (some ⟨g, 0, none⟩)] w fun en w' => en = .returned (.int .i64 x.toNat) ∧ Only g w w' ∧ spl w' g (.slice A n c) (i + 1) 0 := by
  obtain ⟨b, o, rfl, hb, hbs, y0⟩ := hr.at_b hx
  obtain ⟨-, h1, h2, h3⟩ := hr.lims
  have hn : n = l.length := by obtain ⟨_, _, hv, _⟩ := hr; cases hv; rfl
  have hil : i < n := by rw [hn]; exact (List.getElem?_eq_some_iff.1 hx).1
  have hbg : b ≠ g := fun e => hg (e ▸ hb)
  have hx8 := x.toNat_lt
  have c0 : w.cell? ⟨g, 0, none⟩ = some (.slice (some ⟨b, o, none⟩) n c) := cell_of_row w _ 0 _ _ _ h
  have c1 : w.cell? ⟨g, 1, none⟩ = some (.int .i64 i) := cell_of_row w _ 1 _ _ _ h
  have c2 : w.cell? ⟨g, 2, none⟩ = some (.int .i64 0) := cell_of_row w _ 2 _ _ _ h
  have f0 : ∀ i, w.frozen? ⟨g, i, none⟩ = false := fun i => by unfold spl at h; simp [World.frozen?, h]
  have i1 : ¬ (n : Int) ≤ (i : Int) := by omega
  have i2 : (0 : Int) ≤ (i : Int) := by omega
  have i3 : (i : Int) < (n : Int) := by omega
  have Hh := Lib.hid h
  have Hy := Lib.hid y0
  clear h hr h3 hx y0
  go_enter Tryd.func50, Tryd.ntmps50
  go_wp2
  go_quiet (fail)
  go_upto_region 6 with fail
  have h6 : spl ((w.drewN nq).setCell ⟨g, 1, none⟩ (.int .i64 ((i : Int) + 1))) g (.slice (some ⟨b, o, none⟩) n c) (i + 1) 0 := spl_set1 (w := w.drewN nq) Hh.out (i + 1)
  have y6 : ((w.drewN nq).setCell ⟨g, 1, none⟩ (.int .i64 ((i : Int) + 1))).cell? ⟨b, o + i, none⟩ = some (.int .u8 x.toNat) := (cell_keep (Below.heap_setCell _ _ _ _ hbg)).trans Hy.out
  have o6 := ((Only.refl g w).drewN nq).set 1 (.int .i64 ((i : Int) + 1))
  generalize (w.drewN nq).setCell ⟨g, 1, none⟩ (.int .i64 ((i : Int) + 1)) = W6 at *
  have Ho6 := Lib.hid o6
  have Hh6 := Lib.hid h6
  clear c0 c1 c2 f0 o6
  have c0 : W6.cell? ⟨g, 0, none⟩ = some (.slice (some ⟨b, o, none⟩) n c) := cell_of_row W6 _ 0 _ _ _ h6
  have c1 : W6.cell? ⟨g, 1, none⟩ = some (.int .i64 ((i : Int) + 1)) := cell_of_row W6 _ 1 _ _ _ h6
  clear h6
  have i7 : (i : Int) + 1 - 1 = (i : Int) := by omega
  go_wp2
  go_quiet (fail)
  go_wp2
  go_ret
  exact ⟨rfl, Ho6.out.drewN _, Hh6.out⟩
set_option maxRecDepth 100000 in
set_option maxHeartbeats 4000000 in
theorem numberS_any (g i0 : Nat) (S : Nat → Prop) (hg : ¬ S g) (A : Option Addr) (n c : Nat) (l : List UInt8) (w : World) (h : spl w g (.slice A n c) i0 0) (hr : RdSl bE w S (.slice A n c) l) (hi : i0 ≤ l.length) (hs : l.length ≤ 5000) :
    Calls Tryd.prog 51 #[.pointer (some ⟨g, 0, none⟩)] w fun en w' => ∃ (x : Int) (i : Nat) (e : Int), en = .returned (.int .i64 x) ∧ Only g w w' ∧ spl w' g (.slice A n c) i e ∧ i ≤ l.length ∧
      ((e = 0 ∧ ∃ m, numF (I8 (l.drop i0)) 0 0 = .ok (m, I8 (l.drop i)) ∧ x = unzz m) ∨ (e ≠ 0 ∧ numF (I8 (l.drop i0)) 0 0 = .error e)) := by
  have Hh := Lib.hid h
  have Hr := Lib.hid hr
  have hn : n = l.length := by obtain ⟨_, _, hv, _⟩ := hr; cases hv; rfl
  clear h hr
  generalize hN : numF (I8 (l.drop i0)) 0 0 = N
  have HN := Lib.hid hN
  clear hN
  go_enter Tryd.func51, Tryd.ntmps51
  go_wp2_with fail
  go_loopw [3, 4, 5] (fun a u b wr => ∃ (k m i : Nat) (e : Int), a = .int .i64 m ∧ u = .int .i64 ((128 ^ k : Nat) : Int) ∧ b = .int .i64 k ∧ Only g w wr ∧ spl wr g (.slice A n c) i e ∧ i ≤ l.length ∧ m < 128 ^ k ∧ k ≤ 6 ∧
      e = 0 ∧ numF (I8 (l.drop i)) k m = N) (fun _ _ b _ => 8 - (intOf b).toNat)
  case atStart => exact ⟨0, 0, i0, 0, rfl, rfl, rfl, Only.refl _ _, Hh.out, hi, by decide, by omega, rfl, HN.out⟩
  case round =>
    obtain ⟨k, m, i, e, rfl, rfl, rfl, ho, hd, hil, hm, hk, rfl, hn'⟩ := hrel
    generalize wr = wq at *
    have Ho := Lib.hid ho
    have Hm := Lib.hid hm
    have hm7 := pow_le7 (k := k) (by omega)
    have hmm : m < 562949953421312 := by omega
    have c2 : wq.cell? ⟨g, 2, none⟩ = some (.int .i64 0) := cell_of_row wq _ 2 _ _ _ hd
    have Hd := Lib.hid hd
    have Hn := Lib.hid hn'
    clear ho hm hm7 hd hn'
    obtain ⟨U, hU⟩ : ∃ U : Nat, 128 ^ k = U := ⟨_, rfl⟩
    rw [hU]
    have HU := Lib.hid hU
    clear hU
    by_cases hlt : i < l.length
    · obtain ⟨x, hx⟩ : ∃ x, l[i]? = some x := ⟨_, List.getElem?_eq_getElem hlt⟩
      have hnn := Hn.out
      rw [drop_at hx] at hnn
      replace Hn := Lib.hid hnn
      have hx256 := x.toNat_lt
      have G := Lib.hid (one_ok g i S hg A n c l x wq Hd.out (Ho.out.rd hg Hr.out) hx (by omega))
      clear hnn hx
      go_wp2_with fail
      refine G.out.mono ?_
      rintro en w1 ⟨rfl, ho1, hd1⟩
      have c2' : w1.cell? ⟨g, 2, none⟩ = some (.int .i64 0) := cell_of_row w1 _ 2 _ _ _ hd1
      have f1 : ∀ i, w1.frozen? ⟨g, i, none⟩ = false := fun i => by unfold spl at hd1; simp [World.frozen?, hd1]
      have Ho1 := Lib.hid (Ho.out.trans ho1)
      have Hd1 := Lib.hid hd1
      clear G ho1 hd1 c2
      go_upto_region 7 with fail
      go_cut [32] from 16 to 32 (fun s wx => s = .bool (decide (k = 6 ∨ (0 < k ∧ x.toNat = 0))) ∧ wx = w1)
      case first =>
        by_cases h6 : k = 6
        · subst h6
          go_wp2_with fail
          go_meet
          exact ⟨by simp, rfl⟩
        · have e6 : ((k : Int) == 6) = false := by simp; omega
          have d6 : decide (k = 6 ∨ (0 < k ∧ x.toNat = 0)) = (decide (0 < k) && decide (x.toNat = 0)) := by simp [h6]
          by_cases h0 : 0 < k
          · have i0' : (0 : Int) < (k : Int) := by omega
            go_wp2_with fail
            go_meet
            exact ⟨by rw [d6]; simp [h0]; first | done | (congr 1; simp) | (rw [Bool.eq_iff_iff]; simp), rfl⟩
          · obtain rfl : k = 0 := by omega
            go_wp2_with fail
            go_meet
            exact ⟨by simp, rfl⟩
      case rest =>
      obtain ⟨rfl, hwc⟩ := hcut
      rw [hwc]
      clear hwc
      by_cases hC : k = 6 ∨ (0 < k ∧ x.toNat = 0)
      · have dC : decide (k = 6 ∨ (0 < k ∧ x.toNat = 0)) = true := by simpa using hC
        have HE := Lib.hid ((num_bad hC).symm.trans Hn.out)
        simp only [dC]
        clear dC hC
        go_upto_region 9 with fail
        have Ho2 := Lib.hid (Ho1.out.set 2 (.int .i64 4))
        have Hd2 := Lib.hid (spl_set2 Hd1.out 4)
        clear c2' f1
        generalize w1.setCell ⟨g, 2, none⟩ (.int .i64 4) = w2 at *
        have c2 : w2.cell? ⟨g, 2, none⟩ = some (.int .i64 4) := cell_of_row w2 _ 2 _ _ _ Hd2.out
        go_wp2_with fail
        go_ret
        exact ⟨0, i + 1, 4, rfl, Ho2.out, Hd2.out, by omega, .inr ⟨by decide, HE.out.symm⟩⟩
      · have dC : decide (k = 6 ∨ (0 < k ∧ x.toNat = 0)) = false := by simpa using hC
        have hy : x.toNat % 128 < 128 := Nat.mod_lt _ (by omega)
        have hmn := grown128 Hm.out hy
        have Hmn := Lib.hid hmn
        clear hmn
        have hk5 : k ≤ 5 := by omega
        have e1 : (x.toNat : Int) % 128 = ((x.toNat % 128 : Nat) : Int) := by omega
        simp only [dC]
        go_upto_region 11 with fail
        go_cut [3] from 41 to 47 (fun s wx => s = .int .i64 ((m + x.toNat % 128 * 128 ^ k : Nat) : Int) ∧ wx = w1)
        case first =>
          have hmk := Hm.out
          have hUk := HU.out
          have HX : Hid (x.toNat = x.toNat) := Lib.hid rfl
          generalize hyy : x.toNat % 128 = y at *
          rcases (show k = 0 ∨ k = 1 ∨ k = 2 ∨ k = 3 ∨ k = 4 ∨ k = 5 by omega) with rfl | rfl | rfl | rfl | rfl | rfl
          · have e2 : U = 1 := hUk.symm
            subst e2
            obtain ⟨M, hM⟩ : ∃ M, m + y * 1 = M := ⟨_, rfl⟩
            have hMy : (m : Int) + (y : Int) = (M : Int) := by omega
            have hmk2 : m < 1 := hmk
            go_wp2_with fail
            go_meet
            exact ⟨by rw [show m + y * 128 ^ 0 = M from hM], rfl⟩
          · have e2 : U = 128 := hUk.symm
            subst e2
            obtain ⟨M, hM⟩ : ∃ M, m + y * 128 = M := ⟨_, rfl⟩
            have hMy : (m : Int) + (y : Int) * 128 = (M : Int) := by omega
            have hmk2 : m < 128 := hmk
            go_wp2_with fail
            go_meet
            exact ⟨by rw [show m + y * 128 ^ 1 = M from hM], rfl⟩
          · have e2 : U = 16384 := hUk.symm
            subst e2
            obtain ⟨M, hM⟩ : ∃ M, m + y * 16384 = M := ⟨_, rfl⟩
            have hMy : (m : Int) + (y : Int) * 16384 = (M : Int) := by omega
            have hmk2 : m < 16384 := hmk
            go_wp2_with fail
            go_meet
            exact ⟨by rw [show m + y * 128 ^ 2 = M from hM], rfl⟩
          · have e2 : U = 2097152 := hUk.symm
            subst e2
            obtain ⟨M, hM⟩ : ∃ M, m + y * 2097152 = M := ⟨_, rfl⟩
            have hMy : (m : Int) + (y : Int) * 2097152 = (M : Int) := by omega
            have hmk2 : m < 2097152 := hmk
            go_wp2_with fail
            go_meet
            exact ⟨by rw [show m + y * 128 ^ 3 = M from hM], rfl⟩
          · have e2 : U = 268435456 := hUk.symm
            subst e2
            obtain ⟨M, hM⟩ : ∃ M, m + y * 268435456 = M := ⟨_, rfl⟩
            have hMy : (m : Int) + (y : Int) * 268435456 = (M : Int) := by omega
            have hmk2 : m < 268435456 := hmk
            go_wp2_with fail
            go_meet
            exact ⟨by rw [show m + y * 128 ^ 4 = M from hM], rfl⟩
          · have e2 : U = 34359738368 := hUk.symm
            subst e2
            obtain ⟨M, hM⟩ : ∃ M, m + y * 34359738368 = M := ⟨_, rfl⟩
            have hMy : (m : Int) + (y : Int) * 34359738368 = (M : Int) := by omega
            have hmk2 : m < 34359738368 := hmk
            go_wp2_with fail
            go_meet
            exact ⟨by rw [show m + y * 128 ^ 5 = M from hM], rfl⟩
        case rest =>
        obtain ⟨rfl, hwc⟩ := hcut
        rw [hwc]
        clear hwc
        go_upto_region 12 with fail
        go_cut [4] from 47 to 49 (fun s wx => s = .int .i64 ((128 ^ (k + 1) : Nat) : Int) ∧ wx = w1)
        case first =>
          have hUk := HU.out
          have hU' : U ≤ 34359738368 := by rw [← hUk]; exact Nat.le_trans (Nat.pow_le_pow_right (by omega) hk5) (by decide)
          go_wp2_with fail
          go_meet
          exact ⟨by rw [← hUk, Nat.pow_succ]; first | rfl | (congr 1; push_cast; omega) | (congr 1; simp; omega), rfl⟩
        case rest =>
        obtain ⟨rfl, hwc⟩ := hcut
        rw [hwc]
        clear hwc
        by_cases hl : x.toNat < 128
        · have il : (x.toNat : Int) < 128 := by omega
          have HE := Lib.hid ((num_last hC hl).symm.trans Hn.out)
          obtain ⟨M, hM⟩ : ∃ M, m + x.toNat % 128 * 128 ^ k = M := ⟨_, rfl⟩
          rw [hM]
          have hMs : M < 4611686018427387904 := by have := Hmn.out; have := pow_le7 (k := k + 1) (by omega); omega
          have hMi : (m : Int) + ((x.toNat % 128 : Nat) : Int) * 128 ^ k = (M : Int) := by rw [← hM]; simp
          have HMi := Lib.hid hMi
          clear hMi
          by_cases hM2 : M % 2 = 1
          · have HU2 := Lib.hid (unzz_odd hM2)
            have e9 : (M : Int) % 2 = 1 := by omega
            go_wp2_with fail
            go_ret
            exact ⟨_, i + 1, 0, rfl, Ho1.out, Hd1.out, by omega, .inl ⟨rfl, _, HE.out.symm, by rw [HMi.out, HU2.out]; first | omega | (unfold wrap64; omega)⟩⟩
          · have HU2 := Lib.hid (unzz_even hM2)
            have e9 : (M : Int) % 2 = 0 := by omega
            go_wp2_with fail
            go_ret
            exact ⟨_, i + 1, 0, rfl, Ho1.out, Hd1.out, by omega, .inl ⟨rfl, _, HE.out.symm, by rw [HMi.out, HU2.out]; first | omega | (unfold wrap64; omega)⟩⟩
        · have il : ¬ (x.toNat : Int) < 128 := by omega
          have HE := Lib.hid ((num_on hC hl).symm.trans Hn.out)
          clear dC hC
          go_wp2_with fail
          go_roundw
          case rel => exact ⟨k + 1, m + x.toNat % 128 * 128 ^ k, i + 1, 0, by go_num, by go_num, by go_num, Ho1.out, Hd1.out, by omega, Hmn.out, by omega, rfl, by have := HE.out; simpa using this⟩
          case measure => simp [intOf]; omega
    · have hdr : l.drop i = [] := List.drop_of_length_le (by omega)
      have hnn := Hn.out
      rw [hdr] at hnn
      have HE := Lib.hid hnn
      have G := Lib.hid (one_end g i A n c wq Hd.out (by omega) (by omega))
      clear hdr hnn
      go_wp2_with fail
      refine G.out.mono ?_
      rintro en w1 ⟨rfl, ho1, hd1⟩
      have c2' : w1.cell? ⟨g, 2, none⟩ = some (.int .i64 5) := cell_of_row w1 _ 2 _ _ _ hd1
      have Ho1 := Lib.hid (Ho.out.trans ho1)
      have Hd1 := Lib.hid hd1
      clear G ho1 hd1 c2
      go_wp2_with fail
      go_ret
      exact ⟨0, i, 5, rfl, Ho1.out, Hd1.out, hil, .inr ⟨by decide, HE.out.symm⟩⟩
end Go.Proofs.YtfafnjkinolkmaaDoor
