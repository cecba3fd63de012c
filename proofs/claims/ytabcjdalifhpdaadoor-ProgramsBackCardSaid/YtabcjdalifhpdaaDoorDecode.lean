/- The walk of code.Decode. Condition: the table of operators holds what the program's text lays there. -/
import Derived.Test.YtabcjdalifhpdaaDoorReadI
import Derived.Test.YtabcjdalifhpdaaDoorDecL
import Derived.Test.YtabcjdalifhpdaaDoorCloneN
import Derived.Test.YtabcjdalifhpdaaDoorCodeC
namespace Go.Proofs.YtabcjdalifhpdaaDoor
open Go.RowKit

theorem infoSI : (Tryd.prog.info? 43).map (fun i => (i.zero, i.size, i.bytes)) = some (some (.slice none 0 0), 1, 24) := by kernel_rfl
theorem fr_set {B n i g : Nat} {w0 w : World} {R : List Res} {cs cs' : Array Value} {t : TypeId} (_h : St B w0 w R) (hi : R[i]? = some (.blk g cs t)) {b : Nat} (h : Fr n R b) : Fr n (R.set i (.blk g cs' t)) b :=
  ⟨h.1, fun r hr hf => by
    rcases List.mem_or_eq_of_mem_set hr with h' | rfl
    · exact h.2 r h' hf
    · exact h.2 _ (List.mem_of_getElem? hi) hf⟩
theorem not_fr {n i g : Nat} {R : List Res} {cs : Array Value} {t : TypeId} (hi : R[i]? = some (.blk g cs t)) : ¬ Fr n R g := fun h => h.2 _ (List.mem_of_getElem? hi) rfl
theorem not_uses {B i g : Nat} {w0 w : World} {R : List Res} {cs : Array Value} {t : TypeId} (h : St B w0 w R) (hu : UsesAt w0) (hB : B = w0.heap.size) (hi : R[i]? = some (.blk g cs t)) : g ≠ 0 := fun e => by
  have h1 := (h.in_ i hi (b := g) rfl).1
  have := hu.lt
  omega
/-- What a reader of programs answers. -/
def DecD (w : World) (r : Except Int (List (List Ins))) (en : Ending) (w' : World) : Prop :=
  ∃ A d, en = .returned (.tuple #[.agg #[.slice A (okL r).length d], .int .i64 (errL r)]) ∧ RdSl pgE w' (fun b => w.heap.size ≤ b) (.slice A (okL r).length d) (okL r) ∧ Below w.heap.size w w'
theorem DecD.bad {w w' : World} {e : Int} {r : Except Int (List (List Ins))} (hr : r = .error e) (hb : Below w.heap.size w w') : DecD w r (.returned (.tuple #[.agg #[.slice none 0 0], .int .i64 e])) w' := by
  rw [hr]
  exact ⟨none, 0, rfl, RdSl.nil, hb⟩

set_option maxRecDepth 100000 in
set_option maxHeartbeats 8000000 in
theorem decode_any (S : Nat → Prop) (A : Option Addr) (c : Nat) (l : List UInt8) (w : World) (hu : UsesAt w) (hr : RdSl bE w S (.slice A l.length c) l) :
    Calls Tryd.prog 38 #[.slice A l.length c] w (DecD w (progD (I8 l))) := by
  have HB := Lib.hid hr
  have Hu := Lib.hid hu
  clear hr hu
  have T0 : St w.heap.size w (w.alloc (.cells #[.slice none 0 0] 26)) [.blk w.heap.size #[.slice none 0 0] 26] := ((St.start w (Nat.le_refl _)).new' #[.slice none 0 0] 26 w.heap.size rfl).1
  have HT := Lib.hid T0
  have hz : w.heap.size + 1 ≤ (w.alloc (.cells #[.slice none 0 0] 26)).heap.size := by simp
  obtain ⟨-, h1, h2, h3⟩ := HB.out.lims
  replace HB := Lib.hid (HB.out.pool (by decide) T0)
  clear T0
  by_cases hbig : 5000 < l.length
  · have HE := Lib.hid (prog_big hbig)
    have i1 : (5000 : Int) < (l.length : Int) := by omega
    go_enter Tryd.func38, Tryd.ntmps38
    go_upto_region 1 with fail
    generalize (w.alloc (.cells #[.slice none 0 0] 26)) = W0 at *
    obtain ⟨r_res, q_res, -⟩ := HT.out.rules
    have z_res : w.heap.size < W0.heap.size := (HT.out.in_ 0 rfl rfl).2
    go_wp2_with fail
    clear r_res q_res z_res
    obtain ⟨T', K'⟩ := HT.out.put 0 0 (.slice none 0 0) rfl
    simp only [List.set_cons_zero, List.setIfInBounds_toArray] at T' K'
    replace HT := Lib.hid T'
    replace HB := Lib.hid (HB.out.move (by decide) K')
    clear T' K'
    replace hz : w.heap.size + 1 ≤ ((W0.setCell ⟨w.heap.size, 0, none⟩ (.slice none 0 0))).heap.size := by simpa using hz
    generalize W0.setCell ⟨w.heap.size, 0, none⟩ (.slice none 0 0) = W1 at *
    obtain ⟨r_res, q_res, -⟩ := HT.out.rules
    have z_res : w.heap.size < W1.heap.size := (HT.out.in_ 0 rfl rfl).2
    refine bodyPost_ret (v := .tuple #[.agg #[.slice none 0 0], .int .i64 1]) (by simp [results, Tryd.results38, go_sem, r_res]) rfl ?_
    exact DecD.bad HE.out HT.out.below
  · have i1 : ¬ (5000 : Int) < (l.length : Int) := by omega
    go_enter Tryd.func38, Tryd.ntmps38
    go_upto_region 1 with fail
    generalize (w.alloc (.cells #[.slice none 0 0] 26)) = W0 at *
    go_upto_region 4 with fail
    generalize Value.slice A l.length c = v0 at *
    obtain ⟨T', K'⟩ := HT.out.new' #[v0, .int .i64 0] 140 W0.heap.size (by first | (simp; done) | rfl)
    replace HT := Lib.hid T'
    replace HB := Lib.hid (HB.out.move (by decide) K')
    clear T' K'
    replace hz : w.heap.size + 1 ≤ ((W0.alloc (.cells #[v0, .int .i64 0] 140))).heap.size := Nat.le_trans hz (by simp)
    generalize (W0.alloc (.cells #[v0, .int .i64 0] 140)) = W1 at *
    have hrd : W0.heap.size < W1.heap.size := (HT.out.in_ 0 rfl rfl).2
    obtain ⟨r_rd, q_rd, r_res, q_res, -⟩ := HT.out.rules
    have z_rd : W0.heap.size < W1.heap.size := (HT.out.in_ 0 rfl rfl).2
    have z_res : w.heap.size < W1.heap.size := (HT.out.in_ 1 rfl rfl).2
    go_wp2_with fail
    rcases l with _ | ⟨x, l⟩
    · have HE := Lib.hid prog_zero
      refine (byte_no _ (Fr 0 [.blk W0.heap.size #[v0, .int .i64 0] 140, .blk w.heap.size #[.slice none 0 0] 26]) _ ⟨_, HT.out.heap 0 rfl, HB.out⟩).mono ?_
      rintro en W2 ⟨rfl, ho, v1, hd⟩
      clear r_rd q_rd r_res q_res z_rd z_res
      obtain ⟨T', K'⟩ := HT.out.only 0 rfl ho hd
      simp only [List.set_cons_zero] at T' K'
      replace HT := Lib.hid T'
      replace HB := Lib.hid (HB.out.move (by decide) K')
      clear T' K'
      replace hz : w.heap.size + 1 ≤ W2.heap.size := Nat.le_trans hz ho.size
      clear ho hd
      obtain ⟨r_rd, q_rd, r_res, q_res, -⟩ := HT.out.rules
      have z_rd : W0.heap.size < W2.heap.size := (HT.out.in_ 0 rfl rfl).2
      have z_res : w.heap.size < W2.heap.size := (HT.out.in_ 1 rfl rfl).2
      go_wp2_with fail
      refine (byte_bad _ _ 5 _ (HT.out.heap 0 rfl) rfl).mono ?_
      rintro e w' ⟨rfl, rfl⟩
      clear r_rd q_rd r_res q_res z_rd z_res
      obtain ⟨r_rd, q_rd, r_res, q_res, -⟩ := HT.out.rules
      have z_rd : W0.heap.size < W2.heap.size := (HT.out.in_ 0 rfl rfl).2
      have z_res : w.heap.size < W2.heap.size := (HT.out.in_ 1 rfl rfl).2
      go_upto_region 8 with fail
      obtain ⟨T', K'⟩ := HT.out.new' #[.slice none 0 0] 26 W2.heap.size (by first | (simp; done) | rfl)
      replace HT := Lib.hid T'
      clear T' K'
      replace hz : w.heap.size + 1 ≤ ((W2.alloc (.cells #[.slice none 0 0] 26))).heap.size := Nat.le_trans hz (by simp)
      clear r_rd q_rd r_res q_res z_rd z_res
      generalize (W2.alloc (.cells #[.slice none 0 0] 26)) = W5 at *
      obtain ⟨-, -, r_rd, q_rd, r_res, q_res, -⟩ := HT.out.rules
      have z_rd : W0.heap.size < W5.heap.size := (HT.out.in_ 1 rfl rfl).2
      have z_res : w.heap.size < W5.heap.size := (HT.out.in_ 2 rfl rfl).2
      go_wp2_with fail
      refine (byte_bad _ _ 5 _ (HT.out.heap 1 rfl) rfl).mono ?_
      rintro e w' ⟨rfl, rfl⟩
      go_wp2_with fail
      clear r_rd q_rd r_res q_res z_rd z_res
      obtain ⟨r_p, q_p, r_rd, q_rd, r_res, q_res, -⟩ := HT.out.rules
      have z_p : W2.heap.size < W5.heap.size := (HT.out.in_ 0 rfl rfl).2
      have z_rd : W0.heap.size < W5.heap.size := (HT.out.in_ 1 rfl rfl).2
      have z_res : w.heap.size < W5.heap.size := (HT.out.in_ 2 rfl rfl).2
      go_loopw [8] (fun i wr => i = .int .i64 0 ∧ wr = W5) (fun _ _ => 0)
      case atStart => exact ⟨rfl, rfl⟩
      case round =>
        obtain ⟨rfl, hwr⟩ := hrel
        rw [hwr]
        go_wp2_with fail
        refine wp_region_plan [.still [0, 1, 2, 3, 4], .loud 5 [1, 2, 3, 4], .still [6]] (by kernel_rfl) (by kernel_rfl) ?_
        refine plan_still ?_
        simp only [pick, List.getElem?_toArray, List.getElem?_cons_succ, List.getElem?_cons_zero]
        repeat still_step
        refine wpStill_nil ?_
        refine plan_loud ?_
        simp only [pick, List.getElem?_toArray, List.getElem?_cons_succ, List.getElem?_cons_zero]
        go_wp2_with fail
        clear r_p q_p r_rd q_rd r_res q_res z_p z_rd z_res
        obtain ⟨T', K'⟩ := HT.out.put 2 0 (.slice none 0 0) rfl
        simp only [List.set_cons_succ, List.set_cons_zero, List.setIfInBounds_toArray] at T' K'
        replace HT := Lib.hid T'
        clear T' K'
        replace hz : w.heap.size + 1 ≤ ((W5.setCell ⟨w.heap.size, 0, none⟩ (.slice none 0 0))).heap.size := by simpa using hz
        generalize W5.setCell ⟨w.heap.size, 0, none⟩ (.slice none 0 0) = we at *
        obtain ⟨-, -, r_rd, q_rd, -⟩ := HT.out.rules
        have z_rd : W0.heap.size < we.heap.size := (HT.out.in_ 1 rfl rfl).2
        refine ⟨?_, ?_⟩
        · simp only [Again, pick, List.getElem?_toArray, List.getElem?_cons_succ, List.getElem?_cons_zero]
          refine ⟨?_, ?_, ?_, ?_, trivial⟩
          all_goals (still_step; exact wpStill_nil rfl)
        refine plan_still ?_
        simp only [pick, List.getElem?_toArray, List.getElem?_cons_succ, List.getElem?_cons_zero]
        repeat still_step
        refine wpStill_nil ?_
        refine plan_end (NoPanic.normal ?_)
        obtain ⟨T', K'⟩ := HT.out.drew'
        replace HT := Lib.hid T'
        clear T' K'
        replace hz : w.heap.size + 1 ≤ we.drew.heap.size := hz
        clear r_rd q_rd z_rd
        obtain ⟨-, -, -, -, r_res, q_res, -⟩ := HT.out.rules
        have z_res : w.heap.size < we.drew.heap.size := (HT.out.in_ 2 rfl rfl).2
        go_wp2_with fail
        refine bodyPost_ret (v := .tuple #[.agg #[.slice none 0 0], .int .i64 5]) (by simp [results, Tryd.results38, go_sem, r_res]) rfl ?_
        exact DecD.bad HE.out HT.out.below
    · have hx := x.toNat_lt
      refine (byte_ok _ (Fr 0 [.blk W0.heap.size #[v0, .int .i64 0] 140, .blk w.heap.size #[.slice none 0 0] 26]) (not_fr (i := 0) rfl) x l _ ⟨_, HT.out.heap 0 rfl, HB.out⟩).mono ?_
      rintro en W2 ⟨rfl, ho, v1, hd, hr⟩
      clear HB
      clear r_rd q_rd r_res q_res z_rd z_res
      have hfr := fun b (h : Fr 0 [.blk W0.heap.size #[v0, .int .i64 0] 140, .blk w.heap.size #[.slice none 0 0] 26] b) => fr_set (cs' := #[v1, .int .i64 0]) HT.out (i := 0) rfl h
      obtain ⟨T', K'⟩ := HT.out.only 0 rfl ho hd
      simp only [List.set_cons_zero] at T' K'
      replace HT := Lib.hid T'
      clear T' K'
      replace hz : w.heap.size + 1 ≤ W2.heap.size := Nat.le_trans hz ho.size
      have HB := Lib.hid (hr.keep (by decide) (fun b _ h => ⟨hfr b h, rfl⟩))
      replace HB : Hid (RdSl bE W2 (Fr 0 [.blk W0.heap.size #[v1, .int .i64 0] 140, .blk w.heap.size #[.slice none 0 0] 26]) v1 l) := HB
      clear hr hfr
      clear ho hd
      obtain ⟨r_rd, q_rd, r_res, q_res, -⟩ := HT.out.rules
      have z_rd : W0.heap.size < W2.heap.size := (HT.out.in_ 0 rfl rfl).2
      have z_res : w.heap.size < W2.heap.size := (HT.out.in_ 1 rfl rfl).2
      go_wp2_with fail
      rcases l with _ | ⟨y, l⟩
      · have HE := Lib.hid (prog_one (x := x))
        refine (byte_no _ (Fr 0 [.blk W0.heap.size #[v1, .int .i64 0] 140, .blk w.heap.size #[.slice none 0 0] 26]) _ ⟨_, HT.out.heap 0 rfl, HB.out⟩).mono ?_
        rintro en W3 ⟨rfl, ho, v2, hd⟩
        clear r_rd q_rd r_res q_res z_rd z_res
        obtain ⟨T', K'⟩ := HT.out.only 0 rfl ho hd
        simp only [List.set_cons_zero] at T' K'
        replace HT := Lib.hid T'
        replace HB := Lib.hid (HB.out.move (by decide) K')
        clear T' K'
        replace hz : w.heap.size + 1 ≤ W3.heap.size := Nat.le_trans hz ho.size
        clear ho hd
        obtain ⟨r_rd, q_rd, r_res, q_res, -⟩ := HT.out.rules
        have z_rd : W0.heap.size < W3.heap.size := (HT.out.in_ 0 rfl rfl).2
        have z_res : w.heap.size < W3.heap.size := (HT.out.in_ 1 rfl rfl).2
        go_upto_region 8 with fail
        obtain ⟨T', K'⟩ := HT.out.new' #[.slice none 0 0] 26 W3.heap.size (by first | (simp; done) | rfl)
        replace HT := Lib.hid T'
        clear T' K'
        replace hz : w.heap.size + 1 ≤ ((W3.alloc (.cells #[.slice none 0 0] 26))).heap.size := Nat.le_trans hz (by simp)
        clear r_rd q_rd r_res q_res z_rd z_res
        generalize (W3.alloc (.cells #[.slice none 0 0] 26)) = W5 at *
        obtain ⟨-, -, r_rd, q_rd, r_res, q_res, -⟩ := HT.out.rules
        have z_rd : W0.heap.size < W5.heap.size := (HT.out.in_ 1 rfl rfl).2
        have z_res : w.heap.size < W5.heap.size := (HT.out.in_ 2 rfl rfl).2
        go_wp2_with fail
        refine (byte_bad _ _ 5 _ (HT.out.heap 1 rfl) rfl).mono ?_
        rintro e w' ⟨rfl, rfl⟩
        go_wp2_with fail
        clear r_rd q_rd r_res q_res z_rd z_res
        obtain ⟨r_p, q_p, r_rd, q_rd, r_res, q_res, -⟩ := HT.out.rules
        have z_p : W3.heap.size < W5.heap.size := (HT.out.in_ 0 rfl rfl).2
        have z_rd : W0.heap.size < W5.heap.size := (HT.out.in_ 1 rfl rfl).2
        have z_res : w.heap.size < W5.heap.size := (HT.out.in_ 2 rfl rfl).2
        go_loopw [8] (fun i wr => i = .int .i64 0 ∧ wr = W5) (fun _ _ => 0)
        case atStart => exact ⟨rfl, rfl⟩
        case round =>
          obtain ⟨rfl, hwr⟩ := hrel
          rw [hwr]
          go_wp2_with fail
          refine wp_region_plan [.still [0, 1, 2, 3, 4], .loud 5 [1, 2, 3, 4], .still [6]] (by kernel_rfl) (by kernel_rfl) ?_
          refine plan_still ?_
          simp only [pick, List.getElem?_toArray, List.getElem?_cons_succ, List.getElem?_cons_zero]
          repeat still_step
          refine wpStill_nil ?_
          refine plan_loud ?_
          simp only [pick, List.getElem?_toArray, List.getElem?_cons_succ, List.getElem?_cons_zero]
          go_wp2_with fail
          clear r_p q_p r_rd q_rd r_res q_res z_p z_rd z_res
          obtain ⟨T', K'⟩ := HT.out.put 2 0 (.slice none 0 0) rfl
          simp only [List.set_cons_succ, List.set_cons_zero, List.setIfInBounds_toArray] at T' K'
          replace HT := Lib.hid T'
          clear T' K'
          replace hz : w.heap.size + 1 ≤ ((W5.setCell ⟨w.heap.size, 0, none⟩ (.slice none 0 0))).heap.size := by simpa using hz
          generalize W5.setCell ⟨w.heap.size, 0, none⟩ (.slice none 0 0) = we at *
          obtain ⟨-, -, r_rd, q_rd, -⟩ := HT.out.rules
          have z_rd : W0.heap.size < we.heap.size := (HT.out.in_ 1 rfl rfl).2
          refine ⟨?_, ?_⟩
          · simp only [Again, pick, List.getElem?_toArray, List.getElem?_cons_succ, List.getElem?_cons_zero]
            refine ⟨?_, ?_, ?_, ?_, trivial⟩
            all_goals (still_step; exact wpStill_nil rfl)
          refine plan_still ?_
          simp only [pick, List.getElem?_toArray, List.getElem?_cons_succ, List.getElem?_cons_zero]
          repeat still_step
          refine wpStill_nil ?_
          refine plan_end (NoPanic.normal ?_)
          obtain ⟨T', K'⟩ := HT.out.drew'
          replace HT := Lib.hid T'
          clear T' K'
          replace hz : w.heap.size + 1 ≤ we.drew.heap.size := hz
          clear r_rd q_rd z_rd
          obtain ⟨-, -, -, -, r_res, q_res, -⟩ := HT.out.rules
          have z_res : w.heap.size < we.drew.heap.size := (HT.out.in_ 2 rfl rfl).2
          go_wp2_with fail
          refine bodyPost_ret (v := .tuple #[.agg #[.slice none 0 0], .int .i64 5]) (by simp [results, Tryd.results38, go_sem, r_res]) rfl ?_
          exact DecD.bad HE.out HT.out.below
      · have hy := y.toNat_lt
        refine (byte_ok _ (Fr 0 [.blk W0.heap.size #[v1, .int .i64 0] 140, .blk w.heap.size #[.slice none 0 0] 26]) (not_fr (i := 0) rfl) y l _ ⟨_, HT.out.heap 0 rfl, HB.out⟩).mono ?_
        rintro en W3 ⟨rfl, ho, v2, hd, hr⟩
        clear HB
        clear r_rd q_rd r_res q_res z_rd z_res
        have hfr := fun b (h : Fr 0 [.blk W0.heap.size #[v1, .int .i64 0] 140, .blk w.heap.size #[.slice none 0 0] 26] b) => fr_set (cs' := #[v2, .int .i64 0]) HT.out (i := 0) rfl h
        obtain ⟨T', K'⟩ := HT.out.only 0 rfl ho hd
        simp only [List.set_cons_zero] at T' K'
        replace HT := Lib.hid T'
        clear T' K'
        replace hz : w.heap.size + 1 ≤ W3.heap.size := Nat.le_trans hz ho.size
        have HB := Lib.hid (hr.keep (by decide) (fun b _ h => ⟨hfr b h, rfl⟩))
        replace HB : Hid (RdSl bE W3 (Fr 0 [.blk W0.heap.size #[v2, .int .i64 0] 140, .blk w.heap.size #[.slice none 0 0] 26]) v2 l) := HB
        clear hr hfr
        clear ho hd
        obtain ⟨r_rd, q_rd, r_res, q_res, -⟩ := HT.out.rules
        have z_rd : W0.heap.size < W3.heap.size := (HT.out.in_ 0 rfl rfl).2
        have z_res : w.heap.size < W3.heap.size := (HT.out.in_ 1 rfl rfl).2
        have f3 : ∀ i, W3.frozen? ⟨W0.heap.size, i, none⟩ = false := q_rd
        by_cases hxy : (x.toNat : Int) ≠ 116 ∨ (y.toNat : Int) ≠ 119
        · have HE := Lib.hid (prog_sign (l := l) hbig hxy)
          clear f3
          have hC : decide ((x.toNat : Int) ≠ 116 ∨ (y.toNat : Int) ≠ 119) = true := by simpa using hxy
          go_upto_region 5 with fail
          go_cut [37] from 25 to 37 (fun s wx => s = .bool (decide ((x.toNat : Int) ≠ 116 ∨ (y.toNat : Int) ≠ 119)) ∧ wx = W3)
          case first =>
            by_cases h1 : (x.toNat : Int) = 116
            · have e1 : ((x.toNat : Int) != 116) = false := by simpa using h1
              go_wp2_with fail
              go_meet
              exact ⟨by simp [h1, bne, decide_not]; try rfl, rfl⟩
            · have e1 : ((x.toNat : Int) != 116) = true := by simpa using h1
              go_wp2_with fail
              go_meet
              exact ⟨by simp [h1], rfl⟩
          case rest =>
          obtain ⟨rfl, hwc⟩ := hcut
          rw [hwc]
          clear hwc
          rw [hC]
          clear hC
          go_upto_region 7 with fail
          clear r_rd q_rd r_res q_res z_rd z_res
          obtain ⟨T', K'⟩ := HT.out.put 0 1 (.int .i64 4) rfl
          simp only [List.set_cons_succ, List.set_cons_zero, List.setIfInBounds_toArray] at T' K'
          replace HT := Lib.hid T'
          replace HB := Lib.hid (HB.out.move (by decide) K')
          clear T' K'
          replace hz : w.heap.size + 1 ≤ ((W3.setCell ⟨W0.heap.size, 1, none⟩ (.int .i64 4))).heap.size := by simpa using hz
          generalize W3.setCell ⟨W0.heap.size, 1, none⟩ (.int .i64 4) = W4 at *
          obtain ⟨r_rd, q_rd, r_res, q_res, -⟩ := HT.out.rules
          have z_rd : W0.heap.size < W4.heap.size := (HT.out.in_ 0 rfl rfl).2
          have z_res : w.heap.size < W4.heap.size := (HT.out.in_ 1 rfl rfl).2
          clear r_rd q_rd r_res q_res z_rd z_res
          obtain ⟨r_rd, q_rd, r_res, q_res, -⟩ := HT.out.rules
          have z_rd : W0.heap.size < W4.heap.size := (HT.out.in_ 0 rfl rfl).2
          have z_res : w.heap.size < W4.heap.size := (HT.out.in_ 1 rfl rfl).2
          go_upto_region 8 with fail
          obtain ⟨T', K'⟩ := HT.out.new' #[.slice none 0 0] 26 W4.heap.size (by first | (simp; done) | rfl)
          replace HT := Lib.hid T'
          clear T' K'
          replace hz : w.heap.size + 1 ≤ ((W4.alloc (.cells #[.slice none 0 0] 26))).heap.size := Nat.le_trans hz (by simp)
          clear r_rd q_rd r_res q_res z_rd z_res
          generalize (W4.alloc (.cells #[.slice none 0 0] 26)) = W5 at *
          obtain ⟨-, -, r_rd, q_rd, r_res, q_res, -⟩ := HT.out.rules
          have z_rd : W0.heap.size < W5.heap.size := (HT.out.in_ 1 rfl rfl).2
          have z_res : w.heap.size < W5.heap.size := (HT.out.in_ 2 rfl rfl).2
          go_wp2_with fail
          refine (byte_bad _ _ 4 _ (HT.out.heap 1 rfl) rfl).mono ?_
          rintro e w' ⟨rfl, rfl⟩
          go_wp2_with fail
          clear r_rd q_rd r_res q_res z_rd z_res
          obtain ⟨r_p, q_p, r_rd, q_rd, r_res, q_res, -⟩ := HT.out.rules
          have z_p : W4.heap.size < W5.heap.size := (HT.out.in_ 0 rfl rfl).2
          have z_rd : W0.heap.size < W5.heap.size := (HT.out.in_ 1 rfl rfl).2
          have z_res : w.heap.size < W5.heap.size := (HT.out.in_ 2 rfl rfl).2
          go_loopw [8] (fun i wr => i = .int .i64 0 ∧ wr = W5) (fun _ _ => 0)
          case atStart => exact ⟨rfl, rfl⟩
          case round =>
            obtain ⟨rfl, hwr⟩ := hrel
            rw [hwr]
            go_wp2_with fail
            refine wp_region_plan [.still [0, 1, 2, 3, 4], .loud 5 [1, 2, 3, 4], .still [6]] (by kernel_rfl) (by kernel_rfl) ?_
            refine plan_still ?_
            simp only [pick, List.getElem?_toArray, List.getElem?_cons_succ, List.getElem?_cons_zero]
            repeat still_step
            refine wpStill_nil ?_
            refine plan_loud ?_
            simp only [pick, List.getElem?_toArray, List.getElem?_cons_succ, List.getElem?_cons_zero]
            go_wp2_with fail
            clear r_p q_p r_rd q_rd r_res q_res z_p z_rd z_res
            obtain ⟨T', K'⟩ := HT.out.put 2 0 (.slice none 0 0) rfl
            simp only [List.set_cons_succ, List.set_cons_zero, List.setIfInBounds_toArray] at T' K'
            replace HT := Lib.hid T'
            clear T' K'
            replace hz : w.heap.size + 1 ≤ ((W5.setCell ⟨w.heap.size, 0, none⟩ (.slice none 0 0))).heap.size := by simpa using hz
            generalize W5.setCell ⟨w.heap.size, 0, none⟩ (.slice none 0 0) = we at *
            obtain ⟨-, -, r_rd, q_rd, -⟩ := HT.out.rules
            have z_rd : W0.heap.size < we.heap.size := (HT.out.in_ 1 rfl rfl).2
            refine ⟨?_, ?_⟩
            · simp only [Again, pick, List.getElem?_toArray, List.getElem?_cons_succ, List.getElem?_cons_zero]
              refine ⟨?_, ?_, ?_, ?_, trivial⟩
              all_goals (still_step; exact wpStill_nil rfl)
            refine plan_still ?_
            simp only [pick, List.getElem?_toArray, List.getElem?_cons_succ, List.getElem?_cons_zero]
            repeat still_step
            refine wpStill_nil ?_
            refine plan_end (NoPanic.normal ?_)
            obtain ⟨T', K'⟩ := HT.out.drew'
            replace HT := Lib.hid T'
            clear T' K'
            replace hz : w.heap.size + 1 ≤ we.drew.heap.size := hz
            clear r_rd q_rd z_rd
            obtain ⟨-, -, -, -, r_res, q_res, -⟩ := HT.out.rules
            have z_res : w.heap.size < we.drew.heap.size := (HT.out.in_ 2 rfl rfl).2
            go_wp2_with fail
            refine bodyPost_ret (v := .tuple #[.agg #[.slice none 0 0], .int .i64 4]) (by simp [results, Tryd.results38, go_sem, r_res]) rfl ?_
            exact DecD.bad HE.out HT.out.below
        · obtain ⟨rfl, rfl⟩ : x = 116 ∧ y = 119 := sign_is hxy
          clear f3 hxy hx hy
          go_upto_region 8 with fail
          obtain ⟨T', K'⟩ := HT.out.new' #[.slice none 0 0] 26 W3.heap.size (by first | (simp; done) | rfl)
          replace HT := Lib.hid T'
          replace HB := Lib.hid (HB.out.move (by decide) K')
          clear T' K'
          replace hz : w.heap.size + 1 ≤ ((W3.alloc (.cells #[.slice none 0 0] 26))).heap.size := Nat.le_trans hz (by simp)
          clear r_rd q_rd r_res q_res z_rd z_res
          generalize (W3.alloc (.cells #[.slice none 0 0] 26)) = W5 at *
          obtain ⟨-, -, r_rd, q_rd, r_res, q_res, -⟩ := HT.out.rules
          have z_rd : W0.heap.size < W5.heap.size := (HT.out.in_ 1 rfl rfl).2
          have z_res : w.heap.size < W5.heap.size := (HT.out.in_ 2 rfl rfl).2
          go_wp2_with fail
          rcases l with _ | ⟨n, l⟩
          · have HE := Lib.hid prog_two
            refine (byte_no _ (Fr 0 [.blk W3.heap.size #[.slice none 0 0] 26, .blk W0.heap.size #[v2, .int .i64 0] 140, .blk w.heap.size #[.slice none 0 0] 26]) _ ⟨_, HT.out.heap 1 rfl, HB.out⟩).mono ?_
            rintro en W6 ⟨rfl, ho, v3, hd⟩
            clear r_rd q_rd r_res q_res z_rd z_res
            obtain ⟨T', K'⟩ := HT.out.only 1 rfl ho hd
            simp only [List.set_cons_succ, List.set_cons_zero] at T' K'
            replace HT := Lib.hid T'
            replace HB := Lib.hid (HB.out.move (by decide) K')
            clear T' K'
            replace hz : w.heap.size + 1 ≤ W6.heap.size := Nat.le_trans hz ho.size
            clear ho hd
            obtain ⟨r_p, q_p, r_rd, q_rd, r_res, q_res, -⟩ := HT.out.rules
            have z_p : W3.heap.size < W6.heap.size := (HT.out.in_ 0 rfl rfl).2
            have z_rd : W0.heap.size < W6.heap.size := (HT.out.in_ 1 rfl rfl).2
            have z_res : w.heap.size < W6.heap.size := (HT.out.in_ 2 rfl rfl).2
            go_wp2_with fail
            clear r_p q_p r_rd q_rd r_res q_res z_p z_rd z_res
            obtain ⟨r_p, q_p, r_rd, q_rd, r_res, q_res, -⟩ := HT.out.rules
            have z_p : W3.heap.size < W6.heap.size := (HT.out.in_ 0 rfl rfl).2
            have z_rd : W0.heap.size < W6.heap.size := (HT.out.in_ 1 rfl rfl).2
            have z_res : w.heap.size < W6.heap.size := (HT.out.in_ 2 rfl rfl).2
            go_loopw [8] (fun i wr => i = .int .i64 0 ∧ wr = W6) (fun _ _ => 0)
            case atStart => exact ⟨rfl, rfl⟩
            case round =>
              obtain ⟨rfl, hwr⟩ := hrel
              rw [hwr]
              go_wp2_with fail
              refine wp_region_plan [.still [0, 1, 2, 3, 4], .loud 5 [1, 2, 3, 4], .still [6]] (by kernel_rfl) (by kernel_rfl) ?_
              refine plan_still ?_
              simp only [pick, List.getElem?_toArray, List.getElem?_cons_succ, List.getElem?_cons_zero]
              repeat still_step
              refine wpStill_nil ?_
              refine plan_loud ?_
              simp only [pick, List.getElem?_toArray, List.getElem?_cons_succ, List.getElem?_cons_zero]
              go_wp2_with fail
              clear r_p q_p r_rd q_rd r_res q_res z_p z_rd z_res
              obtain ⟨T', K'⟩ := HT.out.put 2 0 (.slice none 0 0) rfl
              simp only [List.set_cons_succ, List.set_cons_zero, List.setIfInBounds_toArray] at T' K'
              replace HT := Lib.hid T'
              clear T' K'
              replace hz : w.heap.size + 1 ≤ ((W6.setCell ⟨w.heap.size, 0, none⟩ (.slice none 0 0))).heap.size := by simpa using hz
              generalize W6.setCell ⟨w.heap.size, 0, none⟩ (.slice none 0 0) = we at *
              obtain ⟨-, -, r_rd, q_rd, -⟩ := HT.out.rules
              have z_rd : W0.heap.size < we.heap.size := (HT.out.in_ 1 rfl rfl).2
              refine ⟨?_, ?_⟩
              · simp only [Again, pick, List.getElem?_toArray, List.getElem?_cons_succ, List.getElem?_cons_zero]
                refine ⟨?_, ?_, ?_, ?_, trivial⟩
                all_goals (still_step; exact wpStill_nil rfl)
              refine plan_still ?_
              simp only [pick, List.getElem?_toArray, List.getElem?_cons_succ, List.getElem?_cons_zero]
              repeat still_step
              refine wpStill_nil ?_
              refine plan_end (NoPanic.normal ?_)
              obtain ⟨T', K'⟩ := HT.out.drew'
              replace HT := Lib.hid T'
              clear T' K'
              replace hz : w.heap.size + 1 ≤ we.drew.heap.size := hz
              clear r_rd q_rd z_rd
              obtain ⟨-, -, -, -, r_res, q_res, -⟩ := HT.out.rules
              have z_res : w.heap.size < we.drew.heap.size := (HT.out.in_ 2 rfl rfl).2
              go_wp2_with fail
              refine bodyPost_ret (v := .tuple #[.agg #[.slice none 0 0], .int .i64 5]) (by simp [results, Tryd.results38, go_sem, r_res]) rfl ?_
              exact DecD.bad HE.out HT.out.below
          · have hn := n.toNat_lt
            refine (byte_ok _ (Fr 0 [.blk W3.heap.size #[.slice none 0 0] 26, .blk W0.heap.size #[v2, .int .i64 0] 140, .blk w.heap.size #[.slice none 0 0] 26]) (not_fr (i := 1) rfl) n l _ ⟨_, HT.out.heap 1 rfl, HB.out⟩).mono ?_
            rintro en W6 ⟨rfl, ho, v3, hd, hr⟩
            clear HB
            clear r_rd q_rd r_res q_res z_rd z_res
            have hfr := fun b (h : Fr 0 [.blk W3.heap.size #[.slice none 0 0] 26, .blk W0.heap.size #[v2, .int .i64 0] 140, .blk w.heap.size #[.slice none 0 0] 26] b) => fr_set (cs' := #[v3, .int .i64 0]) HT.out (i := 1) rfl h
            obtain ⟨T', K'⟩ := HT.out.only 1 rfl ho hd
            simp only [List.set_cons_succ, List.set_cons_zero] at T' K'
            replace HT := Lib.hid T'
            clear T' K'
            replace hz : w.heap.size + 1 ≤ W6.heap.size := Nat.le_trans hz ho.size
            have HB := Lib.hid (hr.keep (by decide) (fun b _ h => ⟨hfr b h, rfl⟩))
            replace HB : Hid (RdSl bE W6 (Fr 0 [.blk W3.heap.size #[.slice none 0 0] 26, .blk W0.heap.size #[v3, .int .i64 0] 140, .blk w.heap.size #[.slice none 0 0] 26]) v3 l) := HB
            clear hr hfr
            clear ho hd
            obtain ⟨r_p, q_p, r_rd, q_rd, r_res, q_res, -⟩ := HT.out.rules
            have z_p : W3.heap.size < W6.heap.size := (HT.out.in_ 0 rfl rfl).2
            have z_rd : W0.heap.size < W6.heap.size := (HT.out.in_ 1 rfl rfl).2
            have z_res : w.heap.size < W6.heap.size := (HT.out.in_ 2 rfl rfl).2
            go_wp2_with fail
            clear r_p q_p r_rd q_rd r_res q_res z_p z_rd z_res
            have hz5 : W6.heap.size ≤ W6.heap.size := Nat.le_refl _
            obtain ⟨T', K'⟩ := HT.out.nilRow w.heap.size 43 1
            replace HT := Lib.hid T'
            replace HB := Lib.hid (HB.out.move (by decide) K')
            clear T' K'
            generalize hl0 : l = l0 at *
            obtain ⟨N, hN⟩ : ∃ N, n.toNat = N := ⟨_, rfl⟩
            have hb0 : ¬ 5000 < (116 :: 119 :: n :: l0).length := hbig
            have Hbig := Lib.hid hb0
            clear hbig i1 h1 hb0
            have HEnd : Hid (∀ r, kindsD N (I8 l0) = r → progD (I8 (116 :: 119 :: n :: l0)) = endD r) := Lib.hid (by intro r hr; exact prog_kinds Hbig.out (by rw [hN]; exact hr))
            have hN2 : N < 256 := by omega
            rw [hN]
            go_loopw [8] (fun i wr => ∃ (k : Nat) (vK vr : Value) (er : Int) (css : List (List Value)), i = .int .i64 k ∧ k ≤ N ∧ W6.heap.size ≤ wr.heap.size ∧ St w.heap.size w wr [.row w.heap.size 43 1 vK k (cat css), .blk W3.heap.size #[vK] 26, .blk W0.heap.size #[vr, .int .i64 er] 140, .blk w.heap.size #[.slice none 0 0] 26] ∧ ((er = 0 ∧ ∃ (l2 : List UInt8) (ps : List (List Ins)), RdSl bE wr (Fr 0 [.row w.heap.size 43 1 vK k (cat css), .blk W3.heap.size #[vK] 26, .blk W0.heap.size #[vr, .int .i64 er] 140, .blk w.heap.size #[.slice none 0 0] 26]) vr l2 ∧ Held pgE wr (Fr w.heap.size [.row w.heap.size 43 1 vK k (cat css), .blk W3.heap.size #[vK] 26, .blk W0.heap.size #[vr, .int .i64 er] 140, .blk w.heap.size #[.slice none 0 0] 26]) css ps ∧ ps.length = k ∧ kindsD N (I8 l0) = pre ps (kindsD (N - k) (I8 l2))) ∨ (er ≠ 0 ∧ kindsD N (I8 l0) = .error er))) (fun i _ => N - (intOf i).toNat)
            case atStart => exact ⟨0, .slice none 0 0, v3, 0, [], rfl, Nat.zero_le _, hz5, HT.out, .inl ⟨rfl, l0, [], HB.out, Held.nil, rfl, (pre_nil _).symm⟩⟩
            case round =>
              generalize wr = wq at *
              clear HT HB
              obtain ⟨k, vK, vr, er, css, rfl, hk, hz5, ht, hst⟩ := hrel
              have HT := Lib.hid ht
              clear ht
              obtain ⟨Ak, ck, rfl⟩ := own_form (HT.out.own 0 rfl)
              rcases hst with ⟨rfl, l2, ps, hb, hH, hps, hE⟩ | ⟨her, hE⟩
              · have HB := Lib.hid hb
                have HH := Lib.hid hH
                have HE := Lib.hid hE
                clear hb hH hE
                by_cases hlt : k < N
                · have i2 : (k : Int) < (N : Int) := by omega
                  obtain ⟨r_p, q_p, r_rd, q_rd, r_res, q_res, -⟩ := HT.out.rules
                  have z_p : W3.heap.size < wq.heap.size := (HT.out.in_ 1 rfl rfl).2
                  have z_rd : W0.heap.size < wq.heap.size := (HT.out.in_ 2 rfl rfl).2
                  have z_res : w.heap.size < wq.heap.size := (HT.out.in_ 3 rfl rfl).2
                  go_wp2_with fail
                  rcases l2 with _ | ⟨m, l2⟩
                  · have hE1 : kindsD N (I8 l0) = .error 5 := by rw [HE.out, show N - k = (N - k - 1) + 1 by omega]; rfl
                    replace HE := Lib.hid hE1
                    clear hE1
                    refine (byte_no _ (Fr 0 [.row w.heap.size 43 1 (.slice Ak k ck) k (cat css), .blk W3.heap.size #[.slice Ak k ck] 26, .blk W0.heap.size #[vr, .int .i64 0] 140, .blk w.heap.size #[.slice none 0 0] 26]) _ ⟨_, HT.out.heap 2 rfl, HB.out⟩).mono ?_
                    rintro en wb ⟨rfl, ho, v4, hd⟩
                    clear r_p q_p r_rd q_rd r_res q_res z_p z_rd z_res
                    obtain ⟨T', K'⟩ := HT.out.only 2 rfl ho hd
                    simp only [List.set_cons_succ, List.set_cons_zero] at T' K'
                    replace HT := Lib.hid T'
                    replace HB := Lib.hid (HB.out.move (by decide) K')
                    replace HH := Lib.hid (HH.out.move K')
                    clear T' K'
                    replace hz5 : W6.heap.size ≤ wb.heap.size := Nat.le_trans hz5 ho.size
                    clear ho hd
                    obtain ⟨r_p, q_p, r_rd, q_rd, r_res, q_res, -⟩ := HT.out.rules
                    have z_p : W3.heap.size < wb.heap.size := (HT.out.in_ 1 rfl rfl).2
                    have z_rd : W0.heap.size < wb.heap.size := (HT.out.in_ 2 rfl rfl).2
                    have z_res : w.heap.size < wb.heap.size := (HT.out.in_ 3 rfl rfl).2
                    go_wp2_with fail
                    go_loopw [10, 11] (fun v i wr => v = .slice none 0 0 ∧ i = .int .i64 0 ∧ wr = wb) (fun _ _ _ => 0)
                    case atStart => exact ⟨rfl, rfl, rfl⟩
                    case round =>
                      obtain ⟨rfl, rfl, hwr⟩ := hrel
                      rw [hwr]
                      clear r_p q_p r_rd q_rd r_res q_res z_p z_rd z_res
                      obtain ⟨r_p, q_p, r_rd, q_rd, r_res, q_res, -⟩ := HT.out.rules
                      have z_p : W3.heap.size < wb.heap.size := (HT.out.in_ 1 rfl rfl).2
                      have z_rd : W0.heap.size < wb.heap.size := (HT.out.in_ 2 rfl rfl).2
                      have z_res : w.heap.size < wb.heap.size := (HT.out.in_ 3 rfl rfl).2
                      go_wp2_with (at_builtin; go_loud (refine wpList_append_css rfl (.tmp 76) (.tmp 78) _ rfl (e := 43) (size := 1) (bytes := 24) Tryd.underlying24 infoSI rfl (by omega) HT.out 0 rfl rfl [Value.slice none 0 0] 43 rfl rfl (by simp [Value.oneCell']) (by unfold maxLen; omega) (by omega) HT.out.base ?next))
                      case next =>
                        intro A9 c9 wg T' K' hs3
                        clear r_p q_p r_rd q_rd r_res q_res z_p z_rd z_res
                        replace T' : St w.heap.size w wg [.row w.heap.size 43 1 (.slice A9 (k + 1) c9) (k + 1) (cat (css ++ [[Value.slice none 0 0]])), .blk W3.heap.size #[.slice Ak k ck] 26, .blk W0.heap.size #[v4, .int .i64 5] 140, .blk w.heap.size #[.slice none 0 0] 26] := T'
                        replace K' : Keeps wb [.row w.heap.size 43 1 (.slice Ak k ck) k (cat css), .blk W3.heap.size #[.slice Ak k ck] 26, .blk W0.heap.size #[v4, .int .i64 5] 140, .blk w.heap.size #[.slice none 0 0] 26] wg [.row w.heap.size 43 1 (.slice A9 (k + 1) c9) (k + 1) (cat (css ++ [[Value.slice none 0 0]])), .blk W3.heap.size #[.slice Ak k ck] 26, .blk W0.heap.size #[v4, .int .i64 5] 140, .blk w.heap.size #[.slice none 0 0] 26] := K'
                        replace HT := Lib.hid T'
                        replace HH := Lib.hid (HH.out.move K')
                        clear T' K'
                        replace hz5 : W6.heap.size ≤ wg.heap.size := by omega
                        obtain ⟨r_p, q_p, -⟩ := HT.out.rules
                        have z_p : W3.heap.size < wg.heap.size := (HT.out.in_ 1 rfl rfl).2
                        go_wp2_with fail
                        clear r_p q_p z_p
                        obtain ⟨T', K'⟩ := HT.out.put 1 0 (.slice A9 (k + 1) c9) rfl
                        simp only [List.set_cons_succ, List.set_cons_zero, List.setIfInBounds_toArray] at T' K'
                        replace HT := Lib.hid T'
                        replace HH := Lib.hid (HH.out.move K')
                        clear T' K'
                        replace hz5 : W6.heap.size ≤ ((wg.setCell ⟨W3.heap.size, 0, none⟩ (.slice A9 (k + 1) c9))).heap.size := by simpa using hz5
                        generalize wg.setCell ⟨W3.heap.size, 0, none⟩ (.slice A9 (k + 1) c9) = wh at *
                        go_roundw
                        case rel =>
                          refine ⟨k + 1, .slice A9 (k + 1) c9, v4, 5, css ++ [[Value.slice none 0 0]], by go_num, by omega, hz5, HT.out, ?_⟩
                          exact .inr ⟨by decide, HE.out⟩
                        case measure => simp [intOf]; omega
                  · have hm := m.toNat_lt
                    refine (byte_ok _ (Fr 0 [.row w.heap.size 43 1 (.slice Ak k ck) k (cat css), .blk W3.heap.size #[.slice Ak k ck] 26, .blk W0.heap.size #[vr, .int .i64 0] 140, .blk w.heap.size #[.slice none 0 0] 26]) (not_fr (i := 2) rfl) m l2 _ ⟨_, HT.out.heap 2 rfl, HB.out⟩).mono ?_
                    rintro en wb ⟨rfl, ho, v4, hd, hr⟩
                    clear HB
                    clear r_p q_p r_rd q_rd r_res q_res z_p z_rd z_res
                    have hfr := fun b (h : Fr 0 [.row w.heap.size 43 1 (.slice Ak k ck) k (cat css), .blk W3.heap.size #[.slice Ak k ck] 26, .blk W0.heap.size #[vr, .int .i64 0] 140, .blk w.heap.size #[.slice none 0 0] 26] b) => fr_set (cs' := #[v4, .int .i64 0]) HT.out (i := 2) rfl h
                    obtain ⟨T', K'⟩ := HT.out.only 2 rfl ho hd
                    simp only [List.set_cons_succ, List.set_cons_zero] at T' K'
                    replace HT := Lib.hid T'
                    replace HH := Lib.hid (HH.out.move K')
                    clear T' K'
                    replace hz5 : W6.heap.size ≤ wb.heap.size := Nat.le_trans hz5 ho.size
                    have HB := Lib.hid (hr.keep (by decide) (fun b _ h => ⟨hfr b h, rfl⟩))
                    replace HB : Hid (RdSl bE wb (Fr 0 [.row w.heap.size 43 1 (.slice Ak k ck) k (cat css), .blk W3.heap.size #[.slice Ak k ck] 26, .blk W0.heap.size #[v4, .int .i64 0] 140, .blk w.heap.size #[.slice none 0 0] 26]) v4 l2) := HB
                    clear hr hfr
                    clear ho hd
                    obtain ⟨r_p, q_p, r_rd, q_rd, r_res, q_res, -⟩ := HT.out.rules
                    have z_p : W3.heap.size < wb.heap.size := (HT.out.in_ 1 rfl rfl).2
                    have z_rd : W0.heap.size < wb.heap.size := (HT.out.in_ 2 rfl rfl).2
                    have z_res : w.heap.size < wb.heap.size := (HT.out.in_ 3 rfl rfl).2
                    go_wp2_with fail
                    clear r_p q_p r_rd q_rd r_res q_res z_p z_rd z_res
                    obtain ⟨T', K'⟩ := HT.out.nilRow w.heap.size 42 4
                    replace HT := Lib.hid T'
                    replace HH := Lib.hid (HH.out.move K')
                    replace HB := Lib.hid (HB.out.move (by decide) K')
                    clear T' K'
                    generalize hl3 : l2 = l3 at *
                    obtain ⟨M, hM⟩ : ∃ M, m.toNat = M := ⟨_, rfl⟩
                    have hM2 : M < 256 := by omega
                    rw [hM]
                    go_loopw [10, 11] (fun v i wr => ∃ (j : Nat) (vL vr : Value) (er : Int) (dss : List (List Value)), v = vL ∧ i = .int .i64 j ∧ j ≤ M ∧ W6.heap.size ≤ wr.heap.size ∧ St w.heap.size w wr [.row w.heap.size 42 4 vL j (cat dss), .row w.heap.size 43 1 (.slice Ak k ck) k (cat css), .blk W3.heap.size #[.slice Ak k ck] 26, .blk W0.heap.size #[vr, .int .i64 er] 140, .blk w.heap.size #[.slice none 0 0] 26] ∧ Held pgE wr (Fr w.heap.size [.row w.heap.size 42 4 vL j (cat dss), .row w.heap.size 43 1 (.slice Ak k ck) k (cat css), .blk W3.heap.size #[.slice Ak k ck] 26, .blk W0.heap.size #[vr, .int .i64 er] 140, .blk w.heap.size #[.slice none 0 0] 26]) css ps ∧ ((er = 0 ∧ ∃ (l4 : List UInt8) (is : List Ins), RdSl bE wr (Fr 0 [.row w.heap.size 42 4 vL j (cat dss), .row w.heap.size 43 1 (.slice Ak k ck) k (cat css), .blk W3.heap.size #[.slice Ak k ck] 26, .blk W0.heap.size #[vr, .int .i64 er] 140, .blk w.heap.size #[.slice none 0 0] 26]) vr l4 ∧ Held insE wr (Fr w.heap.size [.row w.heap.size 42 4 vL j (cat dss), .row w.heap.size 43 1 (.slice Ak k ck) k (cat css), .blk W3.heap.size #[.slice Ak k ck] 26, .blk W0.heap.size #[vr, .int .i64 er] 140, .blk w.heap.size #[.slice none 0 0] 26]) dss is ∧ is.length = j ∧ codeD M (I8 l3) = pre is (codeD (M - j) (I8 l4))) ∨ (er ≠ 0 ∧ codeD M (I8 l3) = .error er))) (fun _ i _ => M - (intOf i).toNat)
                    case atStart => exact ⟨0, .slice none 0 0, v4, 0, [], rfl, rfl, Nat.zero_le _, hz5, HT.out, HH.out, .inl ⟨rfl, l3, [], HB.out, Held.nil, rfl, (pre_nil _).symm⟩⟩
                    case round =>
                      generalize wr = wp at *
                      clear HT HB HH
                      obtain ⟨j, vL, vr, er, dss, rfl, rfl, hj, hz5, ht, hH, hst⟩ := hrel
                      have HT := Lib.hid ht
                      have HH := Lib.hid hH
                      clear ht hH
                      obtain ⟨Aj, cj, rfl⟩ := own_form (HT.out.own 0 rfl)
                      rcases hst with ⟨rfl, l4, is, hb, hD, his, hC⟩ | ⟨her, hC⟩
                      · have HB := Lib.hid hb
                        have HD := Lib.hid hD
                        have HC := Lib.hid hC
                        clear hb hD hC
                        by_cases hjl : j < M
                        · have i3 : (j : Int) < (M : Int) := by omega
                          obtain ⟨r_p, q_p, r_rd, q_rd, r_res, q_res, -⟩ := HT.out.rules
                          have z_p : W3.heap.size < wp.heap.size := (HT.out.in_ 2 rfl rfl).2
                          have z_rd : W0.heap.size < wp.heap.size := (HT.out.in_ 3 rfl rfl).2
                          have z_res : w.heap.size < wp.heap.size := (HT.out.in_ 4 rfl rfl).2
                          go_wp2_with fail
                          refine (instrR_any _ (Fr 0 [.row w.heap.size 42 4 (.slice Aj j cj) j (cat dss), .row w.heap.size 43 1 (.slice Ak k ck) k (cat css), .blk W3.heap.size #[.slice Ak k ck] 26, .blk W0.heap.size #[vr, .int .i64 0] 140, .blk w.heap.size #[.slice none 0 0] 26]) (not_fr (i := 3) rfl) l4 _ ⟨_, HT.out.heap 3 rfl, HB.out⟩ (Hu.out.below HT.out.below) (not_uses HT.out Hu.out rfl (i := 3) rfl)).mono ?_
                          rintro en wi ⟨op, a, b, nn, rfl, ho, hst⟩
                          clear HB
                          unfold Stands ReadTo at hst
                          split at hst
                          · rename_i e he
                            obtain ⟨he0, v5, hd⟩ := hst
                            have hC1 : codeD M (I8 l3) = .error e := by rw [HC.out, show M - j = (M - j - 1) + 1 by omega, codeD_err he]; rfl
                            replace HC := Lib.hid hC1
                            clear hC1 he
                            clear r_p q_p r_rd q_rd r_res q_res z_p z_rd z_res
                            obtain ⟨T', K'⟩ := HT.out.only 3 rfl ho hd
                            simp only [List.set_cons_succ, List.set_cons_zero] at T' K'
                            replace HT := Lib.hid T'
                            replace HH := Lib.hid (HH.out.move K')
                            clear T' K'
                            replace hz5 : W6.heap.size ≤ wi.heap.size := Nat.le_trans hz5 ho.size
                            clear ho hd
                            obtain ⟨r_p, q_p, r_rd, q_rd, r_res, q_res, -⟩ := HT.out.rules
                            have z_p : W3.heap.size < wi.heap.size := (HT.out.in_ 2 rfl rfl).2
                            have z_rd : W0.heap.size < wi.heap.size := (HT.out.in_ 3 rfl rfl).2
                            have z_res : w.heap.size < wi.heap.size := (HT.out.in_ 4 rfl rfl).2
                            go_wp2_with (at_builtin; go_loud (refine wpList_append_css rfl (.tmp 70) (.tmp 73) _ rfl (e := 42) (size := 4) (bytes := 32) Tryd.underlying43 infoN rfl (by omega) HT.out 0 rfl rfl [Value.int .i64 op, Value.int .i64 a, Value.int .i64 b, Value.int .i64 nn] 42 rfl rfl (by simp [Value.oneCell']) (by unfold maxLen; omega) (by omega) HT.out.base ?next))
                            case next =>
                              intro A8 c8 wk T' K' hs3
                              clear r_p q_p r_rd q_rd r_res q_res z_p z_rd z_res
                              replace T' : St w.heap.size w wk [.row w.heap.size 42 4 (.slice A8 (j + 1) c8) (j + 1) (cat (dss ++ [[Value.int .i64 op, Value.int .i64 a, Value.int .i64 b, Value.int .i64 nn]])), .row w.heap.size 43 1 (.slice Ak k ck) k (cat css), .blk W3.heap.size #[.slice Ak k ck] 26, .blk W0.heap.size #[v5, .int .i64 e] 140, .blk w.heap.size #[.slice none 0 0] 26] := T'
                              replace K' : Keeps wi [.row w.heap.size 42 4 (.slice Aj j cj) j (cat dss), .row w.heap.size 43 1 (.slice Ak k ck) k (cat css), .blk W3.heap.size #[.slice Ak k ck] 26, .blk W0.heap.size #[v5, .int .i64 e] 140, .blk w.heap.size #[.slice none 0 0] 26] wk [.row w.heap.size 42 4 (.slice A8 (j + 1) c8) (j + 1) (cat (dss ++ [[Value.int .i64 op, Value.int .i64 a, Value.int .i64 b, Value.int .i64 nn]])), .row w.heap.size 43 1 (.slice Ak k ck) k (cat css), .blk W3.heap.size #[.slice Ak k ck] 26, .blk W0.heap.size #[v5, .int .i64 e] 140, .blk w.heap.size #[.slice none 0 0] 26] := K'
                              replace HT := Lib.hid T'
                              replace HH := Lib.hid (HH.out.move K')
                              clear T' K'
                              replace hz5 : W6.heap.size ≤ wk.heap.size := by omega
                              go_wp2_with fail
                              go_roundw
                              case rel => exact ⟨j + 1, .slice A8 (j + 1) c8, v5, e, dss ++ [[Value.int .i64 op, Value.int .i64 a, Value.int .i64 b, Value.int .i64 nn]], rfl, by go_num, by omega, hz5, HT.out, HH.out, .inr ⟨he0, HC.out⟩⟩
                              case measure => simp [intOf]; omega
                          · rename_i i t he
                            obtain ⟨rfl, l5, rfl, v5, hd, hr⟩ := hst
                            have hC1 : codeD M (I8 l3) = pre (is ++ [⟨op, a, b, nn⟩]) (codeD (M - (j + 1)) (I8 l5)) := by rw [HC.out, show M - j = (M - (j + 1)) + 1 by omega, codeD_ok he, pre_pre]
                            replace HC := Lib.hid hC1
                            clear hC1 he
                            clear r_p q_p r_rd q_rd r_res q_res z_p z_rd z_res
                            have hfr := fun b (h : Fr 0 [.row w.heap.size 42 4 (.slice Aj j cj) j (cat dss), .row w.heap.size 43 1 (.slice Ak k ck) k (cat css), .blk W3.heap.size #[.slice Ak k ck] 26, .blk W0.heap.size #[vr, .int .i64 0] 140, .blk w.heap.size #[.slice none 0 0] 26] b) => fr_set (cs' := #[v5, .int .i64 0]) HT.out (i := 3) rfl h
                            obtain ⟨T', K'⟩ := HT.out.only 3 rfl ho hd
                            simp only [List.set_cons_succ, List.set_cons_zero] at T' K'
                            replace HT := Lib.hid T'
                            replace HH := Lib.hid (HH.out.move K')
                            replace HD := Lib.hid (HD.out.move K')
                            clear T' K'
                            replace hz5 : W6.heap.size ≤ wi.heap.size := Nat.le_trans hz5 ho.size
                            have HB := Lib.hid (hr.keep (by decide) (fun b _ h => ⟨hfr b h, rfl⟩))
                            replace HB : Hid (RdSl bE wi (Fr 0 [.row w.heap.size 42 4 (.slice Aj j cj) j (cat dss), .row w.heap.size 43 1 (.slice Ak k ck) k (cat css), .blk W3.heap.size #[.slice Ak k ck] 26, .blk W0.heap.size #[v5, .int .i64 0] 140, .blk w.heap.size #[.slice none 0 0] 26]) v5 l5) := HB
                            clear hr hfr
                            clear ho hd
                            obtain ⟨r_p, q_p, r_rd, q_rd, r_res, q_res, -⟩ := HT.out.rules
                            have z_p : W3.heap.size < wi.heap.size := (HT.out.in_ 2 rfl rfl).2
                            have z_rd : W0.heap.size < wi.heap.size := (HT.out.in_ 3 rfl rfl).2
                            have z_res : w.heap.size < wi.heap.size := (HT.out.in_ 4 rfl rfl).2
                            go_wp2_with (at_builtin; go_loud (refine wpList_append_css rfl (.tmp 70) (.tmp 73) _ rfl (e := 42) (size := 4) (bytes := 32) Tryd.underlying43 infoN rfl (by omega) HT.out 0 rfl rfl [Value.int .i64 op, Value.int .i64 a, Value.int .i64 b, Value.int .i64 nn] 42 rfl rfl (by simp [Value.oneCell']) (by unfold maxLen; omega) (by omega) HT.out.base ?next))
                            case next =>
                              intro A8 c8 wk T' K' hs3
                              clear r_p q_p r_rd q_rd r_res q_res z_p z_rd z_res
                              replace T' : St w.heap.size w wk [.row w.heap.size 42 4 (.slice A8 (j + 1) c8) (j + 1) (cat (dss ++ [[Value.int .i64 op, Value.int .i64 a, Value.int .i64 b, Value.int .i64 nn]])), .row w.heap.size 43 1 (.slice Ak k ck) k (cat css), .blk W3.heap.size #[.slice Ak k ck] 26, .blk W0.heap.size #[v5, .int .i64 0] 140, .blk w.heap.size #[.slice none 0 0] 26] := T'
                              replace K' : Keeps wi [.row w.heap.size 42 4 (.slice Aj j cj) j (cat dss), .row w.heap.size 43 1 (.slice Ak k ck) k (cat css), .blk W3.heap.size #[.slice Ak k ck] 26, .blk W0.heap.size #[v5, .int .i64 0] 140, .blk w.heap.size #[.slice none 0 0] 26] wk [.row w.heap.size 42 4 (.slice A8 (j + 1) c8) (j + 1) (cat (dss ++ [[Value.int .i64 op, Value.int .i64 a, Value.int .i64 b, Value.int .i64 nn]])), .row w.heap.size 43 1 (.slice Ak k ck) k (cat css), .blk W3.heap.size #[.slice Ak k ck] 26, .blk W0.heap.size #[v5, .int .i64 0] 140, .blk w.heap.size #[.slice none 0 0] 26] := K'
                              replace HT := Lib.hid T'
                              replace HH := Lib.hid (HH.out.move K')
                              replace HD := Lib.hid (HD.out.move K')
                              replace HB := Lib.hid (HB.out.move (by decide) K')
                              clear T' K'
                              replace hz5 : W6.heap.size ≤ wk.heap.size := by omega
                              go_wp2_with fail
                              have hnew := HD.out.append (Held.single (E := insE) (cs := [Value.int .i64 op, Value.int .i64 a, Value.int .i64 b, Value.int .i64 nn]) (x := ⟨op, a, b, nn⟩) rfl rfl)
                              go_roundw
                              case rel => exact ⟨j + 1, .slice A8 (j + 1) c8, v5, 0, dss ++ [[Value.int .i64 op, Value.int .i64 a, Value.int .i64 b, Value.int .i64 nn]], rfl, by go_num, by omega, hz5, HT.out, HH.out, .inl ⟨rfl, l5, is ++ [⟨op, a, b, nn⟩], HB.out, hnew, by simp [his], HC.out⟩⟩
                              case measure => simp [intOf]; omega
                        · have i3 : ¬ (j : Int) < (M : Int) := by omega
                          have hjM : j = M := by omega
                          have hC1 : codeD M (I8 l3) = .ok (is, I8 l4) := by rw [HC.out, hjM, Nat.sub_self]; show Except.ok (is ++ [], I8 l4) = _; rw [List.append_nil]
                          have hE1 : kindsD N (I8 l0) = pre (ps ++ [is]) (kindsD (N - (k + 1)) (I8 l4)) := by rw [HE.out, show N - k = (N - (k + 1)) + 1 by omega, show I8 (m :: l3) = (M : Int) :: I8 l3 by rw [← hM]; rfl, kindsD_ok (by rw [Int.toNat_natCast]; exact hC1), pre_pre]
                          replace HE := Lib.hid hE1
                          clear hE1 hC1 HC hjM
                          obtain ⟨r_p, q_p, r_rd, q_rd, r_res, q_res, -⟩ := HT.out.rules
                          have z_p : W3.heap.size < wp.heap.size := (HT.out.in_ 2 rfl rfl).2
                          have z_rd : W0.heap.size < wp.heap.size := (HT.out.in_ 3 rfl rfl).2
                          have z_res : w.heap.size < wp.heap.size := (HT.out.in_ 4 rfl rfl).2
                          clear r_p q_p r_rd q_rd r_res q_res z_p z_rd z_res
                          have Hv := Lib.hid (HT.out.rdOut (E := insE) (n := w.heap.size) 0 rfl rfl his.symm HD.out (by show is.length * 32 ≤ _; omega) (Nat.le_refl _) (by decide))
                          clear HD
                          obtain ⟨T', K'⟩ := HT.out.drop 0
                          simp only [List.eraseIdx_cons_zero] at T' K'
                          replace HT := Lib.hid T'
                          replace HH := Lib.hid (HH.out.move K')
                          replace HB := Lib.hid (HB.out.move (by decide) K')
                          clear T' K'
                          replace Hv : Hid (RdSl insE wp (Fr w.heap.size [.row w.heap.size 43 1 (.slice Ak k ck) k (cat css), .blk W3.heap.size #[.slice Ak k ck] 26, .blk W0.heap.size #[vr, .int .i64 0] 140, .blk w.heap.size #[.slice none 0 0] 26]) (.slice Aj j cj) is) := Hv
                          obtain ⟨r_p, q_p, r_rd, q_rd, r_res, q_res, -⟩ := HT.out.rules
                          have z_p : W3.heap.size < wp.heap.size := (HT.out.in_ 1 rfl rfl).2
                          have z_rd : W0.heap.size < wp.heap.size := (HT.out.in_ 2 rfl rfl).2
                          have z_res : w.heap.size < wp.heap.size := (HT.out.in_ 3 rfl rfl).2
                          go_wp2_with (at_builtin; go_loud (refine wpList_append_css rfl (.tmp 76) (.tmp 78) _ rfl (e := 43) (size := 1) (bytes := 24) Tryd.underlying24 infoSI rfl (by omega) HT.out 0 rfl rfl [Value.slice Aj j cj] 43 rfl rfl (by simp [Value.oneCell']) (by unfold maxLen; omega) (by omega) HT.out.base ?next))
                          case next =>
                            intro A9 c9 wg T' K' hs3
                            clear r_p q_p r_rd q_rd r_res q_res z_p z_rd z_res
                            replace T' : St w.heap.size w wg [.row w.heap.size 43 1 (.slice A9 (k + 1) c9) (k + 1) (cat (css ++ [[Value.slice Aj j cj]])), .blk W3.heap.size #[.slice Ak k ck] 26, .blk W0.heap.size #[vr, .int .i64 0] 140, .blk w.heap.size #[.slice none 0 0] 26] := T'
                            replace K' : Keeps wp [.row w.heap.size 43 1 (.slice Ak k ck) k (cat css), .blk W3.heap.size #[.slice Ak k ck] 26, .blk W0.heap.size #[vr, .int .i64 0] 140, .blk w.heap.size #[.slice none 0 0] 26] wg [.row w.heap.size 43 1 (.slice A9 (k + 1) c9) (k + 1) (cat (css ++ [[Value.slice Aj j cj]])), .blk W3.heap.size #[.slice Ak k ck] 26, .blk W0.heap.size #[vr, .int .i64 0] 140, .blk w.heap.size #[.slice none 0 0] 26] := K'
                            replace HT := Lib.hid T'
                            replace HH := Lib.hid (HH.out.move K')
                            replace HB := Lib.hid (HB.out.move (by decide) K')
                            replace Hv := Lib.hid (Hv.out.move (by decide) K')
                            clear T' K'
                            replace hz5 : W6.heap.size ≤ wg.heap.size := by omega
                            obtain ⟨r_p, q_p, -⟩ := HT.out.rules
                            have z_p : W3.heap.size < wg.heap.size := (HT.out.in_ 1 rfl rfl).2
                            go_wp2_with fail
                            clear r_p q_p z_p
                            obtain ⟨T', K'⟩ := HT.out.put 1 0 (.slice A9 (k + 1) c9) rfl
                            simp only [List.set_cons_succ, List.set_cons_zero, List.setIfInBounds_toArray] at T' K'
                            replace HT := Lib.hid T'
                            replace HH := Lib.hid (HH.out.move K')
                            replace HB := Lib.hid (HB.out.move (by decide) K')
                            replace Hv := Lib.hid (Hv.out.move (by decide) K')
                            clear T' K'
                            replace hz5 : W6.heap.size ≤ ((wg.setCell ⟨W3.heap.size, 0, none⟩ (.slice A9 (k + 1) c9))).heap.size := by simpa using hz5
                            generalize wg.setCell ⟨W3.heap.size, 0, none⟩ (.slice A9 (k + 1) c9) = wh at *
                            have hnew := HH.out.append (Held.single (E := pgE) (cs := [Value.slice Aj j cj]) (x := is) rfl ⟨_, rfl, Hv.out⟩)
                            go_roundw
                            case rel =>
                              refine ⟨k + 1, .slice A9 (k + 1) c9, vr, 0, css ++ [[Value.slice Aj j cj]], by go_num, by omega, hz5, HT.out, ?_⟩
                              exact .inl ⟨rfl, l4, ps ++ [is], HB.out, hnew, by simp [hps], HE.out⟩
                            case measure => simp [intOf]; omega
                      · have her0 : (er == 0) = false := by simpa using her
                        have hE1 : kindsD N (I8 l0) = .error er := by rw [HE.out, show N - k = (N - k - 1) + 1 by omega, show I8 (m :: l3) = (M : Int) :: I8 l3 by rw [← hM]; rfl, kindsD_err (by rw [Int.toNat_natCast]; exact hC)]; rfl
                        replace HE := Lib.hid hE1
                        clear hE1 hC
                        obtain ⟨r_p, q_p, r_rd, q_rd, r_res, q_res, -⟩ := HT.out.rules
                        have z_p : W3.heap.size < wp.heap.size := (HT.out.in_ 2 rfl rfl).2
                        have z_rd : W0.heap.size < wp.heap.size := (HT.out.in_ 3 rfl rfl).2
                        have z_res : w.heap.size < wp.heap.size := (HT.out.in_ 4 rfl rfl).2
                        by_cases hjl : j < M
                        · have i3 : (j : Int) < (M : Int) := by omega
                          clear r_p q_p r_rd q_rd r_res q_res z_p z_rd z_res
                          obtain ⟨T', K'⟩ := HT.out.drop 0
                          simp only [List.eraseIdx_cons_zero] at T' K'
                          replace HT := Lib.hid T'
                          replace HH := Lib.hid (HH.out.move K')
                          clear T' K'
                          obtain ⟨r_p, q_p, r_rd, q_rd, r_res, q_res, -⟩ := HT.out.rules
                          have z_p : W3.heap.size < wp.heap.size := (HT.out.in_ 1 rfl rfl).2
                          have z_rd : W0.heap.size < wp.heap.size := (HT.out.in_ 2 rfl rfl).2
                          have z_res : w.heap.size < wp.heap.size := (HT.out.in_ 3 rfl rfl).2
                          go_wp2_with (at_builtin; go_loud (refine wpList_append_css rfl (.tmp 76) (.tmp 78) _ rfl (e := 43) (size := 1) (bytes := 24) Tryd.underlying24 infoSI rfl (by omega) HT.out 0 rfl rfl [Value.slice Aj j cj] 43 rfl rfl (by simp [Value.oneCell']) (by unfold maxLen; omega) (by omega) HT.out.base ?next))
                          case next =>
                            intro A9 c9 wg T' K' hs3
                            clear r_p q_p r_rd q_rd r_res q_res z_p z_rd z_res
                            replace T' : St w.heap.size w wg [.row w.heap.size 43 1 (.slice A9 (k + 1) c9) (k + 1) (cat (css ++ [[Value.slice Aj j cj]])), .blk W3.heap.size #[.slice Ak k ck] 26, .blk W0.heap.size #[vr, .int .i64 er] 140, .blk w.heap.size #[.slice none 0 0] 26] := T'
                            replace K' : Keeps wp [.row w.heap.size 43 1 (.slice Ak k ck) k (cat css), .blk W3.heap.size #[.slice Ak k ck] 26, .blk W0.heap.size #[vr, .int .i64 er] 140, .blk w.heap.size #[.slice none 0 0] 26] wg [.row w.heap.size 43 1 (.slice A9 (k + 1) c9) (k + 1) (cat (css ++ [[Value.slice Aj j cj]])), .blk W3.heap.size #[.slice Ak k ck] 26, .blk W0.heap.size #[vr, .int .i64 er] 140, .blk w.heap.size #[.slice none 0 0] 26] := K'
                            replace HT := Lib.hid T'
                            replace HH := Lib.hid (HH.out.move K')
                            clear T' K'
                            replace hz5 : W6.heap.size ≤ wg.heap.size := by omega
                            obtain ⟨r_p, q_p, -⟩ := HT.out.rules
                            have z_p : W3.heap.size < wg.heap.size := (HT.out.in_ 1 rfl rfl).2
                            go_wp2_with fail
                            clear r_p q_p z_p
                            obtain ⟨T', K'⟩ := HT.out.put 1 0 (.slice A9 (k + 1) c9) rfl
                            simp only [List.set_cons_succ, List.set_cons_zero, List.setIfInBounds_toArray] at T' K'
                            replace HT := Lib.hid T'
                            replace HH := Lib.hid (HH.out.move K')
                            clear T' K'
                            replace hz5 : W6.heap.size ≤ ((wg.setCell ⟨W3.heap.size, 0, none⟩ (.slice A9 (k + 1) c9))).heap.size := by simpa using hz5
                            generalize wg.setCell ⟨W3.heap.size, 0, none⟩ (.slice A9 (k + 1) c9) = wh at *
                            go_roundw
                            case rel =>
                              refine ⟨k + 1, .slice A9 (k + 1) c9, vr, er, css ++ [[Value.slice Aj j cj]], by go_num, by omega, hz5, HT.out, ?_⟩
                              exact .inr ⟨her, HE.out⟩
                            case measure => simp [intOf]; omega
                        · have i3 : ¬ (j : Int) < (M : Int) := by omega
                          clear r_p q_p r_rd q_rd r_res q_res z_p z_rd z_res
                          obtain ⟨T', K'⟩ := HT.out.drop 0
                          simp only [List.eraseIdx_cons_zero] at T' K'
                          replace HT := Lib.hid T'
                          replace HH := Lib.hid (HH.out.move K')
                          clear T' K'
                          obtain ⟨r_p, q_p, r_rd, q_rd, r_res, q_res, -⟩ := HT.out.rules
                          have z_p : W3.heap.size < wp.heap.size := (HT.out.in_ 1 rfl rfl).2
                          have z_rd : W0.heap.size < wp.heap.size := (HT.out.in_ 2 rfl rfl).2
                          have z_res : w.heap.size < wp.heap.size := (HT.out.in_ 3 rfl rfl).2
                          go_wp2_with (at_builtin; go_loud (refine wpList_append_css rfl (.tmp 76) (.tmp 78) _ rfl (e := 43) (size := 1) (bytes := 24) Tryd.underlying24 infoSI rfl (by omega) HT.out 0 rfl rfl [Value.slice Aj j cj] 43 rfl rfl (by simp [Value.oneCell']) (by unfold maxLen; omega) (by omega) HT.out.base ?next))
                          case next =>
                            intro A9 c9 wg T' K' hs3
                            clear r_p q_p r_rd q_rd r_res q_res z_p z_rd z_res
                            replace T' : St w.heap.size w wg [.row w.heap.size 43 1 (.slice A9 (k + 1) c9) (k + 1) (cat (css ++ [[Value.slice Aj j cj]])), .blk W3.heap.size #[.slice Ak k ck] 26, .blk W0.heap.size #[vr, .int .i64 er] 140, .blk w.heap.size #[.slice none 0 0] 26] := T'
                            replace K' : Keeps wp [.row w.heap.size 43 1 (.slice Ak k ck) k (cat css), .blk W3.heap.size #[.slice Ak k ck] 26, .blk W0.heap.size #[vr, .int .i64 er] 140, .blk w.heap.size #[.slice none 0 0] 26] wg [.row w.heap.size 43 1 (.slice A9 (k + 1) c9) (k + 1) (cat (css ++ [[Value.slice Aj j cj]])), .blk W3.heap.size #[.slice Ak k ck] 26, .blk W0.heap.size #[vr, .int .i64 er] 140, .blk w.heap.size #[.slice none 0 0] 26] := K'
                            replace HT := Lib.hid T'
                            replace HH := Lib.hid (HH.out.move K')
                            clear T' K'
                            replace hz5 : W6.heap.size ≤ wg.heap.size := by omega
                            obtain ⟨r_p, q_p, -⟩ := HT.out.rules
                            have z_p : W3.heap.size < wg.heap.size := (HT.out.in_ 1 rfl rfl).2
                            go_wp2_with fail
                            clear r_p q_p z_p
                            obtain ⟨T', K'⟩ := HT.out.put 1 0 (.slice A9 (k + 1) c9) rfl
                            simp only [List.set_cons_succ, List.set_cons_zero, List.setIfInBounds_toArray] at T' K'
                            replace HT := Lib.hid T'
                            replace HH := Lib.hid (HH.out.move K')
                            clear T' K'
                            replace hz5 : W6.heap.size ≤ ((wg.setCell ⟨W3.heap.size, 0, none⟩ (.slice A9 (k + 1) c9))).heap.size := by simpa using hz5
                            generalize wg.setCell ⟨W3.heap.size, 0, none⟩ (.slice A9 (k + 1) c9) = wh at *
                            go_roundw
                            case rel =>
                              refine ⟨k + 1, .slice A9 (k + 1) c9, vr, er, css ++ [[Value.slice Aj j cj]], by go_num, by omega, hz5, HT.out, ?_⟩
                              exact .inr ⟨her, HE.out⟩
                            case measure => simp [intOf]; omega
                · have i2 : ¬ (k : Int) < (N : Int) := by omega
                  have hkN : k = N := by omega
                  have hE1 : kindsD N (I8 l0) = .ok (ps, I8 l2) := by rw [HE.out, hkN, Nat.sub_self]; show Except.ok (ps ++ [], I8 l2) = _; rw [List.append_nil]
                  subst hps
                  have HF := Lib.hid (HEnd.out _ hE1)
                  clear hE1 HE hkN
                  obtain ⟨Ar, cr, rfl⟩ := HB.out.is_slice
                  rcases l2 with _ | ⟨x2, l2⟩
                  · have hHs : ps.length * 24 ≤ 140737488355328 := by omega
                    obtain ⟨r_p, q_p, r_rd, q_rd, r_res, q_res, -⟩ := HT.out.rules
                    have z_p : W3.heap.size < wq.heap.size := (HT.out.in_ 1 rfl rfl).2
                    have z_rd : W0.heap.size < wq.heap.size := (HT.out.in_ 2 rfl rfl).2
                    have z_res : w.heap.size < wq.heap.size := (HT.out.in_ 3 rfl rfl).2
                    obtain ⟨f, hf⟩ : ∃ f, progF ps = f := ⟨_, rfl⟩
                    have G := Lib.hid (codeCheck_any _ Ak ck ps _ (Hu.out.below HT.out.below) (HT.out.rdRow (E := pgE) (n := w.heap.size) 0 rfl rfl rfl HH.out hHs (Nat.le_refl _) (by decide)))
                    rw [hf] at G
                    by_cases hf0 : f = 0
                    · subst hf0
                      have HE := Lib.hid (HF.out.trans (endD_ok hf))
                      clear HF
                      go_wp2_with fail
                      refine G.out.mono ?_
                      rintro en wc ⟨rfl, hb⟩
                      clear r_p q_p r_rd q_rd r_res q_res z_p z_rd z_res
                      clear HB
                      obtain ⟨T', K'⟩ := HT.out.call hb
                      replace HT := Lib.hid T'
                      replace HH := Lib.hid (HH.out.move K')
                      clear T' K'
                      replace hz5 : W6.heap.size ≤ wc.heap.size := Nat.le_trans hz5 hb.size
                      clear hb
                      obtain ⟨r_p, q_p, -, -, r_res, q_res, -⟩ := HT.out.rules
                      have z_p : W3.heap.size < wc.heap.size := (HT.out.in_ 1 rfl rfl).2
                      have z_res : w.heap.size < wc.heap.size := (HT.out.in_ 3 rfl rfl).2
                      go_wp2_with fail
                      clear r_p q_p r_res q_res z_p z_res
                      obtain ⟨T', K'⟩ := HT.out.put 3 0 (.slice Ak ps.length ck) rfl
                      simp only [List.set_cons_succ, List.set_cons_zero, List.setIfInBounds_toArray] at T' K'
                      replace HT := Lib.hid T'
                      replace HH := Lib.hid (HH.out.move K')
                      clear T' K'
                      replace hz5 : W6.heap.size ≤ ((wc.setCell ⟨w.heap.size, 0, none⟩ (.slice Ak ps.length ck))).heap.size := by simpa using hz5
                      generalize wc.setCell ⟨w.heap.size, 0, none⟩ (.slice Ak ps.length ck) = we at *
                      obtain ⟨-, -, -, -, r_res, q_res, -⟩ := HT.out.rules
                      have z_res : w.heap.size < we.heap.size := (HT.out.in_ 3 rfl rfl).2
                      refine bodyPost_ret (v := .tuple #[.agg #[.slice Ak ps.length ck], .int .i64 0]) (by simp [results, Tryd.results38, go_sem, r_res]) rfl ?_
                      rw [HE.out]
                      exact ⟨Ak, ck, rfl, HT.out.rdRow (E := pgE) (n := w.heap.size) 0 rfl rfl rfl HH.out hHs (Nat.le_refl _) (by decide), HT.out.below⟩
                    · have hf1 : (f != 0) = true := by simpa using hf0
                      have HE := Lib.hid (HF.out.trans (endD_bad hf hf0))
                      clear HF
                      go_wp2_with fail
                      refine G.out.mono ?_
                      rintro en wc ⟨rfl, hb⟩
                      clear r_p q_p r_rd q_rd r_res q_res z_p z_rd z_res
                      clear HB
                      obtain ⟨T', K'⟩ := HT.out.call hb
                      replace HT := Lib.hid T'
                      replace HH := Lib.hid (HH.out.move K')
                      clear T' K'
                      replace hz5 : W6.heap.size ≤ wc.heap.size := Nat.le_trans hz5 hb.size
                      clear hb
                      obtain ⟨r_p, q_p, -, -, r_res, q_res, -⟩ := HT.out.rules
                      have z_p : W3.heap.size < wc.heap.size := (HT.out.in_ 1 rfl rfl).2
                      have z_res : w.heap.size < wc.heap.size := (HT.out.in_ 3 rfl rfl).2
                      go_wp2_with fail
                      clear r_p q_p r_res q_res z_p z_res
                      obtain ⟨T', K'⟩ := HT.out.put 3 0 (.slice none 0 0) rfl
                      simp only [List.set_cons_succ, List.set_cons_zero, List.setIfInBounds_toArray] at T' K'
                      replace HT := Lib.hid T'
                      replace HH := Lib.hid (HH.out.move K')
                      clear T' K'
                      replace hz5 : W6.heap.size ≤ ((wc.setCell ⟨w.heap.size, 0, none⟩ (.slice none 0 0))).heap.size := by simpa using hz5
                      generalize wc.setCell ⟨w.heap.size, 0, none⟩ (.slice none 0 0) = we at *
                      obtain ⟨-, -, -, -, r_res, q_res, -⟩ := HT.out.rules
                      have z_res : w.heap.size < we.heap.size := (HT.out.in_ 3 rfl rfl).2
                      refine bodyPost_ret (v := .tuple #[.agg #[.slice none 0 0], .int .i64 f]) (by simp [results, Tryd.results38, go_sem, r_res]) rfl ?_
                      exact DecD.bad HE.out HT.out.below
                  · have HE := Lib.hid (HF.out.trans (endD_more ps x2 l2))
                    have i4 : (0 : Int) < ((x2 :: l2).length : Int) := by simp
                    obtain ⟨r_p, q_p, r_rd, q_rd, r_res, q_res, -⟩ := HT.out.rules
                    have z_p : W3.heap.size < wq.heap.size := (HT.out.in_ 1 rfl rfl).2
                    have z_rd : W0.heap.size < wq.heap.size := (HT.out.in_ 2 rfl rfl).2
                    have z_res : w.heap.size < wq.heap.size := (HT.out.in_ 3 rfl rfl).2
                    go_upto_region 19 with fail
                    clear r_p q_p r_rd q_rd r_res q_res z_p z_rd z_res
                    obtain ⟨T', K'⟩ := HT.out.put 2 1 (.int .i64 4) rfl
                    simp only [List.set_cons_succ, List.set_cons_zero, List.setIfInBounds_toArray] at T' K'
                    replace HT := Lib.hid T'
                    replace HB := Lib.hid (HB.out.move (by decide) K')
                    replace HH := Lib.hid (HH.out.move K')
                    clear T' K'
                    replace hz5 : W6.heap.size ≤ ((wq.setCell ⟨W0.heap.size, 1, none⟩ (.int .i64 4))).heap.size := by simpa using hz5
                    generalize wq.setCell ⟨W0.heap.size, 1, none⟩ (.int .i64 4) = wd at *
                    obtain ⟨r_p, q_p, r_rd, q_rd, r_res, q_res, -⟩ := HT.out.rules
                    have z_p : W3.heap.size < wd.heap.size := (HT.out.in_ 1 rfl rfl).2
                    have z_rd : W0.heap.size < wd.heap.size := (HT.out.in_ 2 rfl rfl).2
                    have z_res : w.heap.size < wd.heap.size := (HT.out.in_ 3 rfl rfl).2
                    go_wp2_with fail
                    refine wp_region_plan [.still [0, 1, 2, 3, 4], .loud 5 [1, 2, 3, 4], .still [6]] (by kernel_rfl) (by kernel_rfl) ?_
                    refine plan_still ?_
                    simp only [pick, List.getElem?_toArray, List.getElem?_cons_succ, List.getElem?_cons_zero]
                    repeat still_step
                    refine wpStill_nil ?_
                    refine plan_loud ?_
                    simp only [pick, List.getElem?_toArray, List.getElem?_cons_succ, List.getElem?_cons_zero]
                    go_wp2_with fail
                    clear r_p q_p r_rd q_rd r_res q_res z_p z_rd z_res
                    obtain ⟨T', K'⟩ := HT.out.put 3 0 (.slice none 0 0) rfl
                    simp only [List.set_cons_succ, List.set_cons_zero, List.setIfInBounds_toArray] at T' K'
                    replace HT := Lib.hid T'
                    replace HH := Lib.hid (HH.out.move K')
                    clear T' K'
                    replace hz5 : W6.heap.size ≤ ((wd.setCell ⟨w.heap.size, 0, none⟩ (.slice none 0 0))).heap.size := by simpa using hz5
                    generalize wd.setCell ⟨w.heap.size, 0, none⟩ (.slice none 0 0) = we at *
                    obtain ⟨-, -, r_rd, q_rd, -⟩ := HT.out.rules
                    have z_rd : W0.heap.size < we.heap.size := (HT.out.in_ 2 rfl rfl).2
                    refine ⟨?_, ?_⟩
                    · simp only [Again, pick, List.getElem?_toArray, List.getElem?_cons_succ, List.getElem?_cons_zero]
                      refine ⟨?_, ?_, ?_, ?_, trivial⟩
                      all_goals (still_step; exact wpStill_nil rfl)
                    refine plan_still ?_
                    simp only [pick, List.getElem?_toArray, List.getElem?_cons_succ, List.getElem?_cons_zero]
                    repeat still_step
                    refine wpStill_nil ?_
                    refine plan_end (NoPanic.normal ?_)
                    obtain ⟨T', K'⟩ := HT.out.drew'
                    replace HT := Lib.hid T'
                    replace HH := Lib.hid (HH.out.move K')
                    clear T' K'
                    replace hz5 : W6.heap.size ≤ we.drew.heap.size := hz5
                    clear r_rd q_rd z_rd
                    obtain ⟨-, -, -, -, r_res, q_res, -⟩ := HT.out.rules
                    have z_res : w.heap.size < we.drew.heap.size := (HT.out.in_ 3 rfl rfl).2
                    go_wp2_with fail
                    refine bodyPost_ret (v := .tuple #[.agg #[.slice none 0 0], .int .i64 4]) (by simp [results, Tryd.results38, go_sem, r_res]) rfl ?_
                    exact DecD.bad HE.out HT.out.below
              · have her0 : (er == 0) = false := by simpa using her
                have her1 : (er != 0) = true := by simpa using her
                have HE := Lib.hid (HEnd.out _ hE)
                clear hE
                obtain ⟨r_p, q_p, r_rd, q_rd, r_res, q_res, -⟩ := HT.out.rules
                have z_p : W3.heap.size < wq.heap.size := (HT.out.in_ 1 rfl rfl).2
                have z_rd : W0.heap.size < wq.heap.size := (HT.out.in_ 2 rfl rfl).2
                have z_res : w.heap.size < wq.heap.size := (HT.out.in_ 3 rfl rfl).2
                by_cases hlt : k < N
                · have i2 : (k : Int) < (N : Int) := by omega
                  go_wp2_with fail
                  refine wp_region_plan [.still [0, 1, 2, 3, 4], .loud 5 [1, 2, 3, 4], .still [6]] (by kernel_rfl) (by kernel_rfl) ?_
                  refine plan_still ?_
                  simp only [pick, List.getElem?_toArray, List.getElem?_cons_succ, List.getElem?_cons_zero]
                  repeat still_step
                  refine wpStill_nil ?_
                  refine plan_loud ?_
                  simp only [pick, List.getElem?_toArray, List.getElem?_cons_succ, List.getElem?_cons_zero]
                  go_wp2_with fail
                  clear r_p q_p r_rd q_rd r_res q_res z_p z_rd z_res
                  obtain ⟨T', K'⟩ := HT.out.put 3 0 (.slice none 0 0) rfl
                  simp only [List.set_cons_succ, List.set_cons_zero, List.setIfInBounds_toArray] at T' K'
                  replace HT := Lib.hid T'
                  clear T' K'
                  generalize wq.setCell ⟨w.heap.size, 0, none⟩ (.slice none 0 0) = we at *
                  obtain ⟨-, -, r_rd, q_rd, -⟩ := HT.out.rules
                  have z_rd : W0.heap.size < we.heap.size := (HT.out.in_ 2 rfl rfl).2
                  refine ⟨?_, ?_⟩
                  · simp only [Again, pick, List.getElem?_toArray, List.getElem?_cons_succ, List.getElem?_cons_zero]
                    refine ⟨?_, ?_, ?_, ?_, trivial⟩
                    all_goals (still_step; exact wpStill_nil rfl)
                  refine plan_still ?_
                  simp only [pick, List.getElem?_toArray, List.getElem?_cons_succ, List.getElem?_cons_zero]
                  repeat still_step
                  refine wpStill_nil ?_
                  refine plan_end (NoPanic.normal ?_)
                  obtain ⟨T', K'⟩ := HT.out.drew'
                  replace HT := Lib.hid T'
                  clear T' K'
                  clear r_rd q_rd z_rd
                  obtain ⟨-, -, -, -, r_res, q_res, -⟩ := HT.out.rules
                  have z_res : w.heap.size < we.drew.heap.size := (HT.out.in_ 3 rfl rfl).2
                  go_wp2_with fail
                  refine bodyPost_ret (v := .tuple #[.agg #[.slice none 0 0], .int .i64 er]) (by simp [results, Tryd.results38, go_sem, r_res]) rfl ?_
                  exact DecD.bad HE.out HT.out.below
                · have i2 : ¬ (k : Int) < (N : Int) := by omega
                  go_wp2_with fail
                  refine wp_region_plan [.still [0, 1, 2, 3, 4], .loud 5 [1, 2, 3, 4], .still [6]] (by kernel_rfl) (by kernel_rfl) ?_
                  refine plan_still ?_
                  simp only [pick, List.getElem?_toArray, List.getElem?_cons_succ, List.getElem?_cons_zero]
                  repeat still_step
                  refine wpStill_nil ?_
                  refine plan_loud ?_
                  simp only [pick, List.getElem?_toArray, List.getElem?_cons_succ, List.getElem?_cons_zero]
                  go_wp2_with fail
                  clear r_p q_p r_rd q_rd r_res q_res z_p z_rd z_res
                  obtain ⟨T', K'⟩ := HT.out.put 3 0 (.slice none 0 0) rfl
                  simp only [List.set_cons_succ, List.set_cons_zero, List.setIfInBounds_toArray] at T' K'
                  replace HT := Lib.hid T'
                  clear T' K'
                  generalize wq.setCell ⟨w.heap.size, 0, none⟩ (.slice none 0 0) = we at *
                  obtain ⟨-, -, r_rd, q_rd, -⟩ := HT.out.rules
                  have z_rd : W0.heap.size < we.heap.size := (HT.out.in_ 2 rfl rfl).2
                  refine ⟨?_, ?_⟩
                  · simp only [Again, pick, List.getElem?_toArray, List.getElem?_cons_succ, List.getElem?_cons_zero]
                    refine ⟨?_, ?_, ?_, ?_, trivial⟩
                    all_goals (still_step; exact wpStill_nil rfl)
                  refine plan_still ?_
                  simp only [pick, List.getElem?_toArray, List.getElem?_cons_succ, List.getElem?_cons_zero]
                  repeat still_step
                  refine wpStill_nil ?_
                  refine plan_end (NoPanic.normal ?_)
                  obtain ⟨T', K'⟩ := HT.out.drew'
                  replace HT := Lib.hid T'
                  clear T' K'
                  clear r_rd q_rd z_rd
                  obtain ⟨-, -, -, -, r_res, q_res, -⟩ := HT.out.rules
                  have z_res : w.heap.size < we.drew.heap.size := (HT.out.in_ 3 rfl rfl).2
                  go_wp2_with fail
                  refine bodyPost_ret (v := .tuple #[.agg #[.slice none 0 0], .int .i64 er]) (by simp [results, Tryd.results38, go_sem, r_res]) rfl ?_
                  exact DecD.bad HE.out HT.out.below
end Go.Proofs.YtabcjdalifhpdaaDoor
