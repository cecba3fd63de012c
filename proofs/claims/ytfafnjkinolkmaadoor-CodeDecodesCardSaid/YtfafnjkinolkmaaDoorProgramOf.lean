/- The walk of treadwheelref.ProgramOf. No condition beside what is read. -/
import Derived.Test.YtfafnjkinolkmaaDoorSpool
import Derived.Test.YtfafnjkinolkmaaDoorDecode
import Derived.Test.YtfafnjkinolkmaaDoorBytesOf
namespace Go.Proofs.YtfafnjkinolkmaaDoor
open Go.RowKit

theorem hasA_is (op : Int) (b : Bool) (h : aB op = b) (w : World) : Calls Tryd.prog 43 #[.int .i64 op] w fun e w' => e = .returned (.bool b) ∧ w = w' := h ▸ hasA_any op w
theorem hasN_is (op : Int) (b : Bool) (h : nB op = b) (w : World) : Calls Tryd.prog 46 #[.int .i64 op] w fun e w' => e = .returned (.bool b) ∧ w = w' := h ▸ hasN_any op w
theorem regs_no {op : Int} (h : aB op = false) (l : List UInt8) : regsF op (I8 l) = .ok ((0, 0), I8 l) := by unfold regsF; rw [h]; rfl
theorem regs_end {op : Int} (h : aB op = true) : regsF op (I8 []) = .error 5 := by unfold regsF; rw [h]; rfl
theorem regs_far {op : Int} (h : aB op = true) {c : UInt8} (l : List UInt8) (hc : 63 < (c.toNat : Int)) : regsF op (I8 (c :: l)) = .error 4 := by
  unfold regsF; rw [h]
  show (if 63 < (c.toNat : Int) then _ else _) = _
  rw [if_pos hc]
theorem regs_ok {op : Int} (h : aB op = true) {c : UInt8} (l : List UInt8) (hc : ¬ 63 < (c.toNat : Int)) : regsF op (I8 (c :: l)) = .ok (((c.toNat : Int) % 8, (c.toNat : Int) / 8), I8 l) := by
  unfold regsF; rw [h]
  show (if 63 < (c.toNat : Int) then _ else _) = _
  rw [if_neg hc]
  rfl
theorem next_no {op : Int} (h : nB op = false) (l : List UInt8) : nextF op (I8 l) = .ok (0, I8 l) := by unfold nextF; rw [h]; rfl
theorem next_ok {op : Int} (h : nB op = true) {l : List UInt8} {m : Int} {t : List Int} (hn : numF (I8 l) 0 0 = .ok (m, t)) : nextF op (I8 l) = .ok (unzz m, t) := by unfold nextF; rw [h, hn]; rfl
theorem next_err {op : Int} (h : nB op = true) {l : List UInt8} {e : Int} (hn : numF (I8 l) 0 0 = .error e) : nextF op (I8 l) = .error e := by unfold nextF; rw [h, hn]; rfl
theorem instr_all {x : UInt8} {l l1 : List UInt8} (h : ¬ 19 < (x.toNat : Int)) {a b n : Int} {t : List Int} (hr : regsF x.toNat (I8 l) = .ok ((a, b), I8 l1)) (hn : nextF x.toNat (I8 l1) = .ok (n, t)) : instrF (I8 (x :: l)) = .ok (⟨x.toNat, a, b, n⟩, t) := by rw [instr_next h hr, hn]
theorem instr_nerr {x : UInt8} {l l1 : List UInt8} (h : ¬ 19 < (x.toNat : Int)) {a b e : Int} (hr : regsF x.toNat (I8 l) = .ok ((a, b), I8 l1)) (hn : nextF x.toNat (I8 l1) = .error e) : instrF (I8 (x :: l)) = .error e := by rw [instr_next h hr, hn]
theorem drop_none {l : List UInt8} {i : Nat} (h : ¬ i < l.length) : l.drop i = [] := List.drop_of_length_le (by omega)

set_option maxRecDepth 100000 in
set_option maxHeartbeats 8000000 in
theorem programOf_any (S : Nat → Prop) (A : Option Addr) (c : Nat) (l : List UInt8) (w : World) (hr : RdSl bE w S (.slice A l.length c) l) :
    Calls Tryd.prog 20 #[.slice A l.length c] w (DecD w (progD (I8 l))) := by
  have HB := Lib.hid hr
  clear hr
  have T0 : St w.heap.size w (w.alloc (.cells #[.slice none 0 0] 24)) [.blk w.heap.size #[.slice none 0 0] 24] := ((St.start w (Nat.le_refl _)).new' #[.slice none 0 0] 24 w.heap.size rfl).1
  have HT := Lib.hid T0
  have hz : w.heap.size + 1 ≤ (w.alloc (.cells #[.slice none 0 0] 24)).heap.size := by simp
  obtain ⟨-, h1, h2, h3⟩ := HB.out.lims
  clear h3
  replace HB := Lib.hid (HB.out.pool (by decide) T0)
  clear T0
  by_cases hbig : 5000 < l.length
  · have HE := Lib.hid (prog_big hbig)
    have i1 : (5000 : Int) < (l.length : Int) := by omega
    go_enter Tryd.func20, Tryd.ntmps20
    go_upto_region 1 with fail
    generalize (w.alloc (.cells #[.slice none 0 0] 24)) = W0 at *
    obtain ⟨r_res, q_res, -⟩ := HT.out.rules
    have z_res : w.heap.size < W0.heap.size := (HT.out.in_ 0 rfl rfl).2
    go_wp2_with fail
    clear r_res q_res z_res
    obtain ⟨T', K'⟩ := HT.out.put 0 0 (.slice none 0 0) rfl
    replace T' : St w.heap.size w ((W0.setCell ⟨w.heap.size, 0, none⟩ (.slice none 0 0))) [.blk w.heap.size #[.slice none 0 0] 24] := T'
    replace K' : Keeps W0 [.blk w.heap.size #[.slice none 0 0] 24] ((W0.setCell ⟨w.heap.size, 0, none⟩ (.slice none 0 0))) [.blk w.heap.size #[.slice none 0 0] 24] := K'
    replace HT := Lib.hid T'
    replace HB := Lib.hid (HB.out.move (by decide) K')
    clear T' K'
    replace hz : w.heap.size + 1 ≤ ((W0.setCell ⟨w.heap.size, 0, none⟩ (.slice none 0 0))).heap.size := by simpa using hz
    generalize W0.setCell ⟨w.heap.size, 0, none⟩ (.slice none 0 0) = W1 at *
    obtain ⟨r_res, q_res, -⟩ := HT.out.rules
    have z_res : w.heap.size < W1.heap.size := (HT.out.in_ 0 rfl rfl).2
    refine bodyPost_ret (v := .tuple #[.agg #[.slice none 0 0], .int .i64 1]) (by simp [results, Tryd.results20, go_sem, r_res]) rfl ?_
    exact DecD.bad HE.out HT.out.below
  · have i1 : ¬ (5000 : Int) < (l.length : Int) := by omega
    have h5 : l.length ≤ 5000 := by omega
    go_enter Tryd.func20, Tryd.ntmps20
    go_upto_region 1 with fail
    generalize (w.alloc (.cells #[.slice none 0 0] 24)) = W0 at *
    go_upto_region 4 with fail
    obtain ⟨T', K'⟩ := HT.out.new' #[.slice A l.length c, .int .i64 0, .int .i64 0] 83 W0.heap.size (by first | (simp; done) | rfl)
    replace T' : St w.heap.size w ((W0.alloc (.cells #[.slice A l.length c, .int .i64 0, .int .i64 0] 83))) [.blk W0.heap.size #[.slice A l.length c, .int .i64 0, .int .i64 0] 83, .blk w.heap.size #[.slice none 0 0] 24] := T'
    replace K' : Keeps W0 [.blk w.heap.size #[.slice none 0 0] 24] ((W0.alloc (.cells #[.slice A l.length c, .int .i64 0, .int .i64 0] 83))) [.blk W0.heap.size #[.slice A l.length c, .int .i64 0, .int .i64 0] 83, .blk w.heap.size #[.slice none 0 0] 24] := K'
    replace HT := Lib.hid T'
    replace HB := Lib.hid (HB.out.move (by decide) K')
    clear T' K'
    replace hz : w.heap.size + 1 ≤ ((W0.alloc (.cells #[.slice A l.length c, .int .i64 0, .int .i64 0] 83))).heap.size := Nat.le_trans hz (by simp)
    generalize (W0.alloc (.cells #[.slice A l.length c, .int .i64 0, .int .i64 0] 83)) = W1 at *
    have hrd : W0.heap.size < W1.heap.size := (HT.out.in_ 0 rfl rfl).2
    obtain ⟨r_rd, q_rd, r_res, q_res, -⟩ := HT.out.rules
    have z_rd : W0.heap.size < W1.heap.size := (HT.out.in_ 0 rfl rfl).2
    have z_res : w.heap.size < W1.heap.size := (HT.out.in_ 1 rfl rfl).2
    obtain ⟨l9, hl9⟩ : ∃ l9, l9 = l := ⟨_, rfl⟩
    rcases l9 with _ | ⟨x, l9⟩
    · have HE := Lib.hid (show progD (I8 l) = .error 5 by rw [← hl9]; exact prog_zero)
      have hlen : l.length ≤ 0 ∧ 0 ≤ l.length := by rw [← hl9]; exact ⟨Nat.le_refl _, Nat.le_refl _⟩
      have i2 : ¬ (2 : Int) ≤ (l.length : Int) := by omega
      clear hl9
      go_wp2_with fail
      refine (one_end _ 0 _ _ c _ (HT.out.heap 0 rfl) (by omega) (by omega)).mono ?_
      rintro en W2 ⟨rfl, ho, hd⟩
      clear r_rd q_rd r_res q_res z_rd z_res
      obtain ⟨T', K'⟩ := HT.out.only 0 rfl ho hd
      replace T' : St w.heap.size w W2 [.blk W0.heap.size #[.slice A l.length c, .int .i64 0, .int .i64 5] 83, .blk w.heap.size #[.slice none 0 0] 24] := T'
      replace K' : Keeps W1 [.blk W0.heap.size #[.slice A l.length c, .int .i64 0, .int .i64 0] 83, .blk w.heap.size #[.slice none 0 0] 24] W2 [.blk W0.heap.size #[.slice A l.length c, .int .i64 0, .int .i64 5] 83, .blk w.heap.size #[.slice none 0 0] 24] := K'
      replace HT := Lib.hid T'
      replace HB := Lib.hid (HB.out.move (by decide) K')
      clear T' K'
      replace hz : w.heap.size + 1 ≤ W2.heap.size := Nat.le_trans hz ho.size
      clear ho hd
      obtain ⟨r_rd, q_rd, r_res, q_res, -⟩ := HT.out.rules
      have z_rd : W0.heap.size < W2.heap.size := (HT.out.in_ 0 rfl rfl).2
      have z_res : w.heap.size < W2.heap.size := (HT.out.in_ 1 rfl rfl).2
      go_wp2_with fail
      refine (one_bad _ 0 _ 5 _ (HT.out.heap 0 rfl) (by decide)).mono ?_
      rintro en W3 ⟨rfl, ho, hd⟩
      clear r_rd q_rd r_res q_res z_rd z_res
      obtain ⟨T', K'⟩ := HT.out.only 0 rfl ho hd
      replace T' : St w.heap.size w W3 [.blk W0.heap.size #[.slice A l.length c, .int .i64 0, .int .i64 5] 83, .blk w.heap.size #[.slice none 0 0] 24] := T'
      replace K' : Keeps W2 [.blk W0.heap.size #[.slice A l.length c, .int .i64 0, .int .i64 5] 83, .blk w.heap.size #[.slice none 0 0] 24] W3 [.blk W0.heap.size #[.slice A l.length c, .int .i64 0, .int .i64 5] 83, .blk w.heap.size #[.slice none 0 0] 24] := K'
      replace HT := Lib.hid T'
      replace HB := Lib.hid (HB.out.move (by decide) K')
      clear T' K'
      replace hz : w.heap.size + 1 ≤ W3.heap.size := Nat.le_trans hz ho.size
      clear ho hd
      go_upto_region 9 with fail
      obtain ⟨T', K'⟩ := HT.out.new' #[.slice none 0 0] 24 W3.heap.size (by first | (simp; done) | rfl)
      replace T' : St w.heap.size w ((W3.alloc (.cells #[.slice none 0 0] 24))) [.blk W3.heap.size #[.slice none 0 0] 24, .blk W0.heap.size #[.slice A l.length c, .int .i64 0, .int .i64 5] 83, .blk w.heap.size #[.slice none 0 0] 24] := T'
      replace K' : Keeps W3 [.blk W0.heap.size #[.slice A l.length c, .int .i64 0, .int .i64 5] 83, .blk w.heap.size #[.slice none 0 0] 24] ((W3.alloc (.cells #[.slice none 0 0] 24))) [.blk W3.heap.size #[.slice none 0 0] 24, .blk W0.heap.size #[.slice A l.length c, .int .i64 0, .int .i64 5] 83, .blk w.heap.size #[.slice none 0 0] 24] := K'
      replace HT := Lib.hid T'
      replace HB := Lib.hid (HB.out.move (by decide) K')
      clear T' K'
      replace hz : w.heap.size + 1 ≤ ((W3.alloc (.cells #[.slice none 0 0] 24))).heap.size := Nat.le_trans hz (by simp)
      generalize (W3.alloc (.cells #[.slice none 0 0] 24)) = W5 at *
      obtain ⟨-, -, r_rd, q_rd, r_res, q_res, -⟩ := HT.out.rules
      have z_rd : W0.heap.size < W5.heap.size := (HT.out.in_ 1 rfl rfl).2
      have z_res : w.heap.size < W5.heap.size := (HT.out.in_ 2 rfl rfl).2
      go_wp2_with fail
      refine (one_bad _ 0 _ 5 _ (HT.out.heap 1 rfl) (by decide)).mono ?_
      rintro en W6 ⟨rfl, ho, hd⟩
      clear r_rd q_rd r_res q_res z_rd z_res
      obtain ⟨T', K'⟩ := HT.out.only 1 rfl ho hd
      replace T' : St w.heap.size w W6 [.blk W3.heap.size #[.slice none 0 0] 24, .blk W0.heap.size #[.slice A l.length c, .int .i64 0, .int .i64 5] 83, .blk w.heap.size #[.slice none 0 0] 24] := T'
      replace K' : Keeps W5 [.blk W3.heap.size #[.slice none 0 0] 24, .blk W0.heap.size #[.slice A l.length c, .int .i64 0, .int .i64 5] 83, .blk w.heap.size #[.slice none 0 0] 24] W6 [.blk W3.heap.size #[.slice none 0 0] 24, .blk W0.heap.size #[.slice A l.length c, .int .i64 0, .int .i64 5] 83, .blk w.heap.size #[.slice none 0 0] 24] := K'
      replace HT := Lib.hid T'
      replace HB := Lib.hid (HB.out.move (by decide) K')
      clear T' K'
      replace hz : w.heap.size + 1 ≤ W6.heap.size := Nat.le_trans hz ho.size
      clear ho hd
      obtain ⟨r_p, q_p, r_rd, q_rd, r_res, q_res, -⟩ := HT.out.rules
      have z_p : W3.heap.size < W6.heap.size := (HT.out.in_ 0 rfl rfl).2
      have z_rd : W0.heap.size < W6.heap.size := (HT.out.in_ 1 rfl rfl).2
      have z_res : w.heap.size < W6.heap.size := (HT.out.in_ 2 rfl rfl).2
      go_wp2_with fail
      go_loopw [7] (fun i wr => i = .int .i64 0 ∧ wr = W6) (fun _ _ => 0)
      case atStart => exact ⟨rfl, rfl⟩
      case round =>
        obtain ⟨rfl, hwr⟩ := hrel
        rw [hwr]
        go_wp2_with fail
        refine wp_region_plan [.still [0, 1, 2, 3, 4], .loud 5 [1, 2, 3, 4], .still [6]] (by kernel_rfl) (by kernel_rfl) ?_
        refine plan_still ?_
        simp only [pick, List.getElem?_toArray, List.getElem?_cons_succ, List.getElem?_cons_zero]
        repeat still_step
        refine wpStill_nil ?_
        refine plan_loud ?_
        simp only [pick, List.getElem?_toArray, List.getElem?_cons_succ, List.getElem?_cons_zero]
        go_wp2_with fail
        clear r_p q_p r_rd q_rd r_res q_res z_p z_rd z_res
        obtain ⟨T', K'⟩ := HT.out.put 2 0 (.slice none 0 0) rfl
        replace T' : St w.heap.size w ((W6.setCell ⟨w.heap.size, 0, none⟩ (.slice none 0 0))) [.blk W3.heap.size #[.slice none 0 0] 24, .blk W0.heap.size #[.slice A l.length c, .int .i64 0, .int .i64 5] 83, .blk w.heap.size #[.slice none 0 0] 24] := T'
        replace K' : Keeps W6 [.blk W3.heap.size #[.slice none 0 0] 24, .blk W0.heap.size #[.slice A l.length c, .int .i64 0, .int .i64 5] 83, .blk w.heap.size #[.slice none 0 0] 24] ((W6.setCell ⟨w.heap.size, 0, none⟩ (.slice none 0 0))) [.blk W3.heap.size #[.slice none 0 0] 24, .blk W0.heap.size #[.slice A l.length c, .int .i64 0, .int .i64 5] 83, .blk w.heap.size #[.slice none 0 0] 24] := K'
        replace HT := Lib.hid T'
        replace HB := Lib.hid (HB.out.move (by decide) K')
        clear T' K'
        replace hz : w.heap.size + 1 ≤ ((W6.setCell ⟨w.heap.size, 0, none⟩ (.slice none 0 0))).heap.size := by simpa using hz
        generalize W6.setCell ⟨w.heap.size, 0, none⟩ (.slice none 0 0) = we at *
        obtain ⟨-, -, r_rd, q_rd, -⟩ := HT.out.rules
        have z_rd : W0.heap.size < we.heap.size := (HT.out.in_ 1 rfl rfl).2
        refine ⟨?_, ?_⟩
        · simp only [Again, pick, List.getElem?_toArray, List.getElem?_cons_succ, List.getElem?_cons_zero]
          refine ⟨?_, ?_, ?_, ?_, trivial⟩
          all_goals (still_step; exact wpStill_nil rfl)
        refine plan_still ?_
        simp only [pick, List.getElem?_toArray, List.getElem?_cons_succ, List.getElem?_cons_zero]
        repeat still_step
        refine wpStill_nil ?_
        refine plan_end (NoPanic.normal ?_)
        obtain ⟨T', K'⟩ := HT.out.drew'
        replace T' : St w.heap.size w we.drew [.blk W3.heap.size #[.slice none 0 0] 24, .blk W0.heap.size #[.slice A l.length c, .int .i64 0, .int .i64 5] 83, .blk w.heap.size #[.slice none 0 0] 24] := T'
        replace K' : Keeps we [.blk W3.heap.size #[.slice none 0 0] 24, .blk W0.heap.size #[.slice A l.length c, .int .i64 0, .int .i64 5] 83, .blk w.heap.size #[.slice none 0 0] 24] we.drew [.blk W3.heap.size #[.slice none 0 0] 24, .blk W0.heap.size #[.slice A l.length c, .int .i64 0, .int .i64 5] 83, .blk w.heap.size #[.slice none 0 0] 24] := K'
        replace HT := Lib.hid T'
        replace HB := Lib.hid (HB.out.move (by decide) K')
        clear T' K'
        replace hz : w.heap.size + 1 ≤ we.drew.heap.size := hz
        clear r_rd q_rd z_rd
        obtain ⟨-, -, -, -, r_res, q_res, -⟩ := HT.out.rules
        have z_res : w.heap.size < we.drew.heap.size := (HT.out.in_ 2 rfl rfl).2
        go_wp2_with fail
        refine bodyPost_ret (v := .tuple #[.agg #[.slice none 0 0], .int .i64 5]) (by simp [results, Tryd.results20, go_sem, r_res]) rfl ?_
        exact DecD.bad HE.out HT.out.below
    · have hx := x.toNat_lt
      rcases l9 with _ | ⟨y, l9⟩
      · have HE := Lib.hid (show progD (I8 l) = .error 5 by rw [← hl9]; exact prog_one)
        have hx0 : l[0]? = some x := by rw [← hl9]; rfl
        have hlen : l.length ≤ 1 ∧ 1 ≤ l.length := by rw [← hl9]; exact ⟨Nat.le_refl _, Nat.le_refl _⟩
        have i2 : ¬ (2 : Int) ≤ (l.length : Int) := by omega
        clear hl9
        go_wp2_with fail
        obtain ⟨s1, hs1⟩ : ∃ s, s = 0 + 1 := ⟨_, rfl⟩
        refine (one_ok _ 0 (Fr 0 [.blk W0.heap.size #[.slice A l.length c, .int .i64 0, .int .i64 0] 83, .blk w.heap.size #[.slice none 0 0] 24]) (not_fr (i := 0) rfl) _ _ c l x _ (HT.out.heap 0 rfl) HB.out hx0 (by omega)).mono ?_
        rintro en W2 ⟨rfl, ho, hd⟩
        rw [← hs1] at hd
        have Hs1 := Lib.hid hs1
        have bs1 : s1 ≤ l.length := by have := (List.getElem?_eq_some_iff.1 hx0).1; omega
        clear hs1
        clear r_rd q_rd r_res q_res z_rd z_res
        obtain ⟨T', K'⟩ := HT.out.only 0 rfl ho hd
        replace T' : St w.heap.size w W2 [.blk W0.heap.size #[.slice A l.length c, .int .i64 s1, .int .i64 0] 83, .blk w.heap.size #[.slice none 0 0] 24] := T'
        replace K' : Keeps W1 [.blk W0.heap.size #[.slice A l.length c, .int .i64 0, .int .i64 0] 83, .blk w.heap.size #[.slice none 0 0] 24] W2 [.blk W0.heap.size #[.slice A l.length c, .int .i64 s1, .int .i64 0] 83, .blk w.heap.size #[.slice none 0 0] 24] := K'
        replace HT := Lib.hid T'
        replace HB := Lib.hid (HB.out.move (by decide) K')
        clear T' K'
        replace hz : w.heap.size + 1 ≤ W2.heap.size := Nat.le_trans hz ho.size
        clear ho hd
        obtain ⟨r_rd, q_rd, r_res, q_res, -⟩ := HT.out.rules
        have z_rd : W0.heap.size < W2.heap.size := (HT.out.in_ 0 rfl rfl).2
        have z_res : w.heap.size < W2.heap.size := (HT.out.in_ 1 rfl rfl).2
        go_wp2_with fail
        refine (one_end _ s1 _ _ c _ (HT.out.heap 0 rfl) (by have := Hs1.out; omega) (by have := Hs1.out; omega)).mono ?_
        rintro en W3 ⟨rfl, ho, hd⟩
        clear r_rd q_rd r_res q_res z_rd z_res
        obtain ⟨T', K'⟩ := HT.out.only 0 rfl ho hd
        replace T' : St w.heap.size w W3 [.blk W0.heap.size #[.slice A l.length c, .int .i64 s1, .int .i64 5] 83, .blk w.heap.size #[.slice none 0 0] 24] := T'
        replace K' : Keeps W2 [.blk W0.heap.size #[.slice A l.length c, .int .i64 s1, .int .i64 0] 83, .blk w.heap.size #[.slice none 0 0] 24] W3 [.blk W0.heap.size #[.slice A l.length c, .int .i64 s1, .int .i64 5] 83, .blk w.heap.size #[.slice none 0 0] 24] := K'
        replace HT := Lib.hid T'
        replace HB := Lib.hid (HB.out.move (by decide) K')
        clear T' K'
        replace hz : w.heap.size + 1 ≤ W3.heap.size := Nat.le_trans hz ho.size
        clear ho hd
        go_upto_region 9 with fail
        obtain ⟨T', K'⟩ := HT.out.new' #[.slice none 0 0] 24 W3.heap.size (by first | (simp; done) | rfl)
        replace T' : St w.heap.size w ((W3.alloc (.cells #[.slice none 0 0] 24))) [.blk W3.heap.size #[.slice none 0 0] 24, .blk W0.heap.size #[.slice A l.length c, .int .i64 s1, .int .i64 5] 83, .blk w.heap.size #[.slice none 0 0] 24] := T'
        replace K' : Keeps W3 [.blk W0.heap.size #[.slice A l.length c, .int .i64 s1, .int .i64 5] 83, .blk w.heap.size #[.slice none 0 0] 24] ((W3.alloc (.cells #[.slice none 0 0] 24))) [.blk W3.heap.size #[.slice none 0 0] 24, .blk W0.heap.size #[.slice A l.length c, .int .i64 s1, .int .i64 5] 83, .blk w.heap.size #[.slice none 0 0] 24] := K'
        replace HT := Lib.hid T'
        replace HB := Lib.hid (HB.out.move (by decide) K')
        clear T' K'
        replace hz : w.heap.size + 1 ≤ ((W3.alloc (.cells #[.slice none 0 0] 24))).heap.size := Nat.le_trans hz (by simp)
        generalize (W3.alloc (.cells #[.slice none 0 0] 24)) = W5 at *
        obtain ⟨-, -, r_rd, q_rd, r_res, q_res, -⟩ := HT.out.rules
        have z_rd : W0.heap.size < W5.heap.size := (HT.out.in_ 1 rfl rfl).2
        have z_res : w.heap.size < W5.heap.size := (HT.out.in_ 2 rfl rfl).2
        go_wp2_with fail
        refine (one_bad _ s1 _ 5 _ (HT.out.heap 1 rfl) (by decide)).mono ?_
        rintro en W6 ⟨rfl, ho, hd⟩
        clear r_rd q_rd r_res q_res z_rd z_res
        obtain ⟨T', K'⟩ := HT.out.only 1 rfl ho hd
        replace T' : St w.heap.size w W6 [.blk W3.heap.size #[.slice none 0 0] 24, .blk W0.heap.size #[.slice A l.length c, .int .i64 s1, .int .i64 5] 83, .blk w.heap.size #[.slice none 0 0] 24] := T'
        replace K' : Keeps W5 [.blk W3.heap.size #[.slice none 0 0] 24, .blk W0.heap.size #[.slice A l.length c, .int .i64 s1, .int .i64 5] 83, .blk w.heap.size #[.slice none 0 0] 24] W6 [.blk W3.heap.size #[.slice none 0 0] 24, .blk W0.heap.size #[.slice A l.length c, .int .i64 s1, .int .i64 5] 83, .blk w.heap.size #[.slice none 0 0] 24] := K'
        replace HT := Lib.hid T'
        replace HB := Lib.hid (HB.out.move (by decide) K')
        clear T' K'
        replace hz : w.heap.size + 1 ≤ W6.heap.size := Nat.le_trans hz ho.size
        clear ho hd
        obtain ⟨r_p, q_p, r_rd, q_rd, r_res, q_res, -⟩ := HT.out.rules
        have z_p : W3.heap.size < W6.heap.size := (HT.out.in_ 0 rfl rfl).2
        have z_rd : W0.heap.size < W6.heap.size := (HT.out.in_ 1 rfl rfl).2
        have z_res : w.heap.size < W6.heap.size := (HT.out.in_ 2 rfl rfl).2
        go_wp2_with fail
        go_loopw [7] (fun i wr => i = .int .i64 0 ∧ wr = W6) (fun _ _ => 0)
        case atStart => exact ⟨rfl, rfl⟩
        case round =>
          obtain ⟨rfl, hwr⟩ := hrel
          rw [hwr]
          go_wp2_with fail
          refine wp_region_plan [.still [0, 1, 2, 3, 4], .loud 5 [1, 2, 3, 4], .still [6]] (by kernel_rfl) (by kernel_rfl) ?_
          refine plan_still ?_
          simp only [pick, List.getElem?_toArray, List.getElem?_cons_succ, List.getElem?_cons_zero]
          repeat still_step
          refine wpStill_nil ?_
          refine plan_loud ?_
          simp only [pick, List.getElem?_toArray, List.getElem?_cons_succ, List.getElem?_cons_zero]
          go_wp2_with fail
          clear r_p q_p r_rd q_rd r_res q_res z_p z_rd z_res
          obtain ⟨T', K'⟩ := HT.out.put 2 0 (.slice none 0 0) rfl
          replace T' : St w.heap.size w ((W6.setCell ⟨w.heap.size, 0, none⟩ (.slice none 0 0))) [.blk W3.heap.size #[.slice none 0 0] 24, .blk W0.heap.size #[.slice A l.length c, .int .i64 s1, .int .i64 5] 83, .blk w.heap.size #[.slice none 0 0] 24] := T'
          replace K' : Keeps W6 [.blk W3.heap.size #[.slice none 0 0] 24, .blk W0.heap.size #[.slice A l.length c, .int .i64 s1, .int .i64 5] 83, .blk w.heap.size #[.slice none 0 0] 24] ((W6.setCell ⟨w.heap.size, 0, none⟩ (.slice none 0 0))) [.blk W3.heap.size #[.slice none 0 0] 24, .blk W0.heap.size #[.slice A l.length c, .int .i64 s1, .int .i64 5] 83, .blk w.heap.size #[.slice none 0 0] 24] := K'
          replace HT := Lib.hid T'
          replace HB := Lib.hid (HB.out.move (by decide) K')
          clear T' K'
          replace hz : w.heap.size + 1 ≤ ((W6.setCell ⟨w.heap.size, 0, none⟩ (.slice none 0 0))).heap.size := by simpa using hz
          generalize W6.setCell ⟨w.heap.size, 0, none⟩ (.slice none 0 0) = we at *
          obtain ⟨-, -, r_rd, q_rd, -⟩ := HT.out.rules
          have z_rd : W0.heap.size < we.heap.size := (HT.out.in_ 1 rfl rfl).2
          refine ⟨?_, ?_⟩
          · simp only [Again, pick, List.getElem?_toArray, List.getElem?_cons_succ, List.getElem?_cons_zero]
            refine ⟨?_, ?_, ?_, ?_, trivial⟩
            all_goals (still_step; exact wpStill_nil rfl)
          refine plan_still ?_
          simp only [pick, List.getElem?_toArray, List.getElem?_cons_succ, List.getElem?_cons_zero]
          repeat still_step
          refine wpStill_nil ?_
          refine plan_end (NoPanic.normal ?_)
          obtain ⟨T', K'⟩ := HT.out.drew'
          replace T' : St w.heap.size w we.drew [.blk W3.heap.size #[.slice none 0 0] 24, .blk W0.heap.size #[.slice A l.length c, .int .i64 s1, .int .i64 5] 83, .blk w.heap.size #[.slice none 0 0] 24] := T'
          replace K' : Keeps we [.blk W3.heap.size #[.slice none 0 0] 24, .blk W0.heap.size #[.slice A l.length c, .int .i64 s1, .int .i64 5] 83, .blk w.heap.size #[.slice none 0 0] 24] we.drew [.blk W3.heap.size #[.slice none 0 0] 24, .blk W0.heap.size #[.slice A l.length c, .int .i64 s1, .int .i64 5] 83, .blk w.heap.size #[.slice none 0 0] 24] := K'
          replace HT := Lib.hid T'
          replace HB := Lib.hid (HB.out.move (by decide) K')
          clear T' K'
          replace hz : w.heap.size + 1 ≤ we.drew.heap.size := hz
          clear r_rd q_rd z_rd
          obtain ⟨-, -, -, -, r_res, q_res, -⟩ := HT.out.rules
          have z_res : w.heap.size < we.drew.heap.size := (HT.out.in_ 2 rfl rfl).2
          go_wp2_with fail
          refine bodyPost_ret (v := .tuple #[.agg #[.slice none 0 0], .int .i64 5]) (by simp [results, Tryd.results20, go_sem, r_res]) rfl ?_
          exact DecD.bad HE.out HT.out.below
      · have hy := y.toNat_lt
        have hx0 : l[0]? = some x := by rw [← hl9]; rfl
        have hy0 : l[1]? = some y := by rw [← hl9]; rfl
        have hlen : 2 ≤ l.length := by rw [← hl9]; simp
        have i2 : (2 : Int) ≤ (l.length : Int) := by omega
        have i3 : (0 : Int) < (l.length : Int) := by omega
        have i4 : 0 < l.length := by omega
        have i5 : (1 : Int) < (l.length : Int) := by omega
        have i6 : 1 < l.length := by omega
        have i7 : l ≠ [] := by intro e; rw [e] at i4; exact absurd i4 (by decide)
        obtain ⟨bb, oo, rfl, hbb, _, y0⟩ := HB.out.at_b hx0
        obtain ⟨bb2, oo2, hb2, _, _, y1⟩ := HB.out.at_b hy0
        obtain ⟨rfl, rfl⟩ : bb = bb2 ∧ oo = oo2 := by injection hb2 with h; injection h with h1 h2; exact ⟨h1, h2⟩
        rw [Nat.add_zero] at y0
        clear hb2
        go_cut [34] from 13 to 34 (fun s wx => s = .bool (decide ((x.toNat : Int) ≠ 116 ∨ (y.toNat : Int) ≠ 119)) ∧ wx = W1)
        case first =>
          by_cases h1 : (x.toNat : Int) = 116
          · have e1 : ((x.toNat : Int) != 116) = false := by simpa using h1
            go_wp2_with fail
            go_meet
            exact ⟨by simp [h1, bne, decide_not]; try rfl, rfl⟩
          · have e1 : ((x.toNat : Int) != 116) = true := by simpa using h1
            go_wp2_with fail
            go_meet
            exact ⟨by simp [h1], rfl⟩
        case rest =>
        obtain ⟨rfl, hwc⟩ := hcut
        rw [hwc]
        clear hwc y0 y1 i3 i4 i5 i6 i7
        by_cases hxy : (x.toNat : Int) ≠ 116 ∨ (y.toNat : Int) ≠ 119
        · have HE := Lib.hid (show progD (I8 l) = .error 4 by rw [← hl9]; exact prog_sign (by rw [hl9]; exact hbig) hxy)
          have hC : decide ((x.toNat : Int) ≠ 116 ∨ (y.toNat : Int) ≠ 119) = true := by simpa using hxy
          rw [hC]
          clear hC
          go_wp2_with fail
          clear r_rd q_rd r_res q_res z_rd z_res
          obtain ⟨T', K'⟩ := HT.out.put 1 0 (.slice none 0 0) rfl
          replace T' : St w.heap.size w ((W1.setCell ⟨w.heap.size, 0, none⟩ (.slice none 0 0))) [.blk W0.heap.size #[.slice (some ⟨bb, oo, none⟩) l.length c, .int .i64 0, .int .i64 0] 83, .blk w.heap.size #[.slice none 0 0] 24] := T'
          replace K' : Keeps W1 [.blk W0.heap.size #[.slice (some ⟨bb, oo, none⟩) l.length c, .int .i64 0, .int .i64 0] 83, .blk w.heap.size #[.slice none 0 0] 24] ((W1.setCell ⟨w.heap.size, 0, none⟩ (.slice none 0 0))) [.blk W0.heap.size #[.slice (some ⟨bb, oo, none⟩) l.length c, .int .i64 0, .int .i64 0] 83, .blk w.heap.size #[.slice none 0 0] 24] := K'
          replace HT := Lib.hid T'
          replace HB := Lib.hid (HB.out.move (by decide) K')
          clear T' K'
          replace hz : w.heap.size + 1 ≤ ((W1.setCell ⟨w.heap.size, 0, none⟩ (.slice none 0 0))).heap.size := by simpa using hz
          generalize W1.setCell ⟨w.heap.size, 0, none⟩ (.slice none 0 0) = W4 at *
          obtain ⟨-, -, r_res, q_res, -⟩ := HT.out.rules
          have z_res : w.heap.size < W4.heap.size := (HT.out.in_ 1 rfl rfl).2
          refine bodyPost_ret (v := .tuple #[.agg #[.slice none 0 0], .int .i64 4]) (by simp [results, Tryd.results20, go_sem, r_res]) rfl ?_
          exact DecD.bad HE.out HT.out.below
        · have hC : decide ((x.toNat : Int) ≠ 116 ∨ (y.toNat : Int) ≠ 119) = false := by simpa using hxy
          obtain ⟨rfl, rfl⟩ : x = 116 ∧ y = 119 := sign_is hxy
          rw [hC]
          clear hC hxy hx hy
          go_wp2_with fail
          obtain ⟨s1, hs1⟩ : ∃ s, s = 0 + 1 := ⟨_, rfl⟩
          refine (one_ok _ 0 (Fr 0 [.blk W0.heap.size #[.slice (some ⟨bb, oo, none⟩) l.length c, .int .i64 0, .int .i64 0] 83, .blk w.heap.size #[.slice none 0 0] 24]) (not_fr (i := 0) rfl) _ _ c l _ _ (HT.out.heap 0 rfl) HB.out hx0 (by omega)).mono ?_
          rintro en W2 ⟨rfl, ho, hd⟩
          rw [← hs1] at hd
          have Hs1 := Lib.hid hs1
          have bs1 : s1 ≤ l.length := by have := (List.getElem?_eq_some_iff.1 hx0).1; omega
          clear hs1
          clear r_rd q_rd r_res q_res z_rd z_res
          obtain ⟨T', K'⟩ := HT.out.only 0 rfl ho hd
          replace T' : St w.heap.size w W2 [.blk W0.heap.size #[.slice (some ⟨bb, oo, none⟩) l.length c, .int .i64 s1, .int .i64 0] 83, .blk w.heap.size #[.slice none 0 0] 24] := T'
          replace K' : Keeps W1 [.blk W0.heap.size #[.slice (some ⟨bb, oo, none⟩) l.length c, .int .i64 0, .int .i64 0] 83, .blk w.heap.size #[.slice none 0 0] 24] W2 [.blk W0.heap.size #[.slice (some ⟨bb, oo, none⟩) l.length c, .int .i64 s1, .int .i64 0] 83, .blk w.heap.size #[.slice none 0 0] 24] := K'
          replace HT := Lib.hid T'
          replace HB := Lib.hid (HB.out.move (by decide) K')
          clear T' K'
          replace hz : w.heap.size + 1 ≤ W2.heap.size := Nat.le_trans hz ho.size
          clear ho hd
          obtain ⟨r_rd, q_rd, r_res, q_res, -⟩ := HT.out.rules
          have z_rd : W0.heap.size < W2.heap.size := (HT.out.in_ 0 rfl rfl).2
          have z_res : w.heap.size < W2.heap.size := (HT.out.in_ 1 rfl rfl).2
          go_wp2_with fail
          rw [show (1 : Nat) = s1 by have := Hs1.out; omega] at hy0
          obtain ⟨s2, hs2⟩ : ∃ s, s = s1 + 1 := ⟨_, rfl⟩
          refine (one_ok _ s1 (Fr 0 [.blk W0.heap.size #[.slice (some ⟨bb, oo, none⟩) l.length c, .int .i64 s1, .int .i64 0] 83, .blk w.heap.size #[.slice none 0 0] 24]) (not_fr (i := 0) rfl) _ _ c l _ _ (HT.out.heap 0 rfl) HB.out hy0 (by omega)).mono ?_
          rintro en W3 ⟨rfl, ho, hd⟩
          rw [← hs2] at hd
          have Hs2 := Lib.hid hs2
          have bs2 : s2 ≤ l.length := by have := (List.getElem?_eq_some_iff.1 hy0).1; omega
          clear hs2
          clear r_rd q_rd r_res q_res z_rd z_res
          obtain ⟨T', K'⟩ := HT.out.only 0 rfl ho hd
          replace T' : St w.heap.size w W3 [.blk W0.heap.size #[.slice (some ⟨bb, oo, none⟩) l.length c, .int .i64 s2, .int .i64 0] 83, .blk w.heap.size #[.slice none 0 0] 24] := T'
          replace K' : Keeps W2 [.blk W0.heap.size #[.slice (some ⟨bb, oo, none⟩) l.length c, .int .i64 s1, .int .i64 0] 83, .blk w.heap.size #[.slice none 0 0] 24] W3 [.blk W0.heap.size #[.slice (some ⟨bb, oo, none⟩) l.length c, .int .i64 s2, .int .i64 0] 83, .blk w.heap.size #[.slice none 0 0] 24] := K'
          replace HT := Lib.hid T'
          replace HB := Lib.hid (HB.out.move (by decide) K')
          clear T' K'
          replace hz : w.heap.size + 1 ≤ W3.heap.size := Nat.le_trans hz ho.size
          clear ho hd
          go_upto_region 9 with fail
          obtain ⟨T', K'⟩ := HT.out.new' #[.slice none 0 0] 24 W3.heap.size (by first | (simp; done) | rfl)
          replace T' : St w.heap.size w ((W3.alloc (.cells #[.slice none 0 0] 24))) [.blk W3.heap.size #[.slice none 0 0] 24, .blk W0.heap.size #[.slice (some ⟨bb, oo, none⟩) l.length c, .int .i64 s2, .int .i64 0] 83, .blk w.heap.size #[.slice none 0 0] 24] := T'
          replace K' : Keeps W3 [.blk W0.heap.size #[.slice (some ⟨bb, oo, none⟩) l.length c, .int .i64 s2, .int .i64 0] 83, .blk w.heap.size #[.slice none 0 0] 24] ((W3.alloc (.cells #[.slice none 0 0] 24))) [.blk W3.heap.size #[.slice none 0 0] 24, .blk W0.heap.size #[.slice (some ⟨bb, oo, none⟩) l.length c, .int .i64 s2, .int .i64 0] 83, .blk w.heap.size #[.slice none 0 0] 24] := K'
          replace HT := Lib.hid T'
          replace HB := Lib.hid (HB.out.move (by decide) K')
          clear T' K'
          replace hz : w.heap.size + 1 ≤ ((W3.alloc (.cells #[.slice none 0 0] 24))).heap.size := Nat.le_trans hz (by simp)
          generalize (W3.alloc (.cells #[.slice none 0 0] 24)) = W5 at *
          obtain ⟨-, -, r_rd, q_rd, r_res, q_res, -⟩ := HT.out.rules
          have z_rd : W0.heap.size < W5.heap.size := (HT.out.in_ 1 rfl rfl).2
          have z_res : w.heap.size < W5.heap.size := (HT.out.in_ 2 rfl rfl).2
          go_wp2_with fail
          rcases l9 with _ | ⟨n, l0⟩
          · have HE := Lib.hid (show progD (I8 l) = .error 5 by rw [← hl9]; exact prog_two)
            have hlen2 : l.length ≤ 2 := by rw [← hl9]; simp
            refine (one_end _ s2 _ _ c _ (HT.out.heap 1 rfl) (by have := Hs1.out; have := Hs2.out; omega) (by have := Hs1.out; have := Hs2.out; omega)).mono ?_
            rintro en W6 ⟨rfl, ho, hd⟩
            clear r_rd q_rd r_res q_res z_rd z_res
            obtain ⟨T', K'⟩ := HT.out.only 1 rfl ho hd
            replace T' : St w.heap.size w W6 [.blk W3.heap.size #[.slice none 0 0] 24, .blk W0.heap.size #[.slice (some ⟨bb, oo, none⟩) l.length c, .int .i64 s2, .int .i64 5] 83, .blk w.heap.size #[.slice none 0 0] 24] := T'
            replace K' : Keeps W5 [.blk W3.heap.size #[.slice none 0 0] 24, .blk W0.heap.size #[.slice (some ⟨bb, oo, none⟩) l.length c, .int .i64 s2, .int .i64 0] 83, .blk w.heap.size #[.slice none 0 0] 24] W6 [.blk W3.heap.size #[.slice none 0 0] 24, .blk W0.heap.size #[.slice (some ⟨bb, oo, none⟩) l.length c, .int .i64 s2, .int .i64 5] 83, .blk w.heap.size #[.slice none 0 0] 24] := K'
            replace HT := Lib.hid T'
            replace HB := Lib.hid (HB.out.move (by decide) K')
            clear T' K'
            replace hz : w.heap.size + 1 ≤ W6.heap.size := Nat.le_trans hz ho.size
            clear ho hd
            obtain ⟨r_p, q_p, r_rd, q_rd, r_res, q_res, -⟩ := HT.out.rules
            have z_p : W3.heap.size < W6.heap.size := (HT.out.in_ 0 rfl rfl).2
            have z_rd : W0.heap.size < W6.heap.size := (HT.out.in_ 1 rfl rfl).2
            have z_res : w.heap.size < W6.heap.size := (HT.out.in_ 2 rfl rfl).2
            go_wp2_with fail
            go_loopw [7] (fun i wr => i = .int .i64 0 ∧ wr = W6) (fun _ _ => 0)
            case atStart => exact ⟨rfl, rfl⟩
            case round =>
              obtain ⟨rfl, hwr⟩ := hrel
              rw [hwr]
              go_wp2_with fail
              refine wp_region_plan [.still [0, 1, 2, 3, 4], .loud 5 [1, 2, 3, 4], .still [6]] (by kernel_rfl) (by kernel_rfl) ?_
              refine plan_still ?_
              simp only [pick, List.getElem?_toArray, List.getElem?_cons_succ, List.getElem?_cons_zero]
              repeat still_step
              refine wpStill_nil ?_
              refine plan_loud ?_
              simp only [pick, List.getElem?_toArray, List.getElem?_cons_succ, List.getElem?_cons_zero]
              go_wp2_with fail
              clear r_p q_p r_rd q_rd r_res q_res z_p z_rd z_res
              obtain ⟨T', K'⟩ := HT.out.put 2 0 (.slice none 0 0) rfl
              replace T' : St w.heap.size w ((W6.setCell ⟨w.heap.size, 0, none⟩ (.slice none 0 0))) [.blk W3.heap.size #[.slice none 0 0] 24, .blk W0.heap.size #[.slice (some ⟨bb, oo, none⟩) l.length c, .int .i64 s2, .int .i64 5] 83, .blk w.heap.size #[.slice none 0 0] 24] := T'
              replace K' : Keeps W6 [.blk W3.heap.size #[.slice none 0 0] 24, .blk W0.heap.size #[.slice (some ⟨bb, oo, none⟩) l.length c, .int .i64 s2, .int .i64 5] 83, .blk w.heap.size #[.slice none 0 0] 24] ((W6.setCell ⟨w.heap.size, 0, none⟩ (.slice none 0 0))) [.blk W3.heap.size #[.slice none 0 0] 24, .blk W0.heap.size #[.slice (some ⟨bb, oo, none⟩) l.length c, .int .i64 s2, .int .i64 5] 83, .blk w.heap.size #[.slice none 0 0] 24] := K'
              replace HT := Lib.hid T'
              replace HB := Lib.hid (HB.out.move (by decide) K')
              clear T' K'
              replace hz : w.heap.size + 1 ≤ ((W6.setCell ⟨w.heap.size, 0, none⟩ (.slice none 0 0))).heap.size := by simpa using hz
              generalize W6.setCell ⟨w.heap.size, 0, none⟩ (.slice none 0 0) = we at *
              obtain ⟨-, -, r_rd, q_rd, -⟩ := HT.out.rules
              have z_rd : W0.heap.size < we.heap.size := (HT.out.in_ 1 rfl rfl).2
              refine ⟨?_, ?_⟩
              · simp only [Again, pick, List.getElem?_toArray, List.getElem?_cons_succ, List.getElem?_cons_zero]
                refine ⟨?_, ?_, ?_, ?_, trivial⟩
                all_goals (still_step; exact wpStill_nil rfl)
              refine plan_still ?_
              simp only [pick, List.getElem?_toArray, List.getElem?_cons_succ, List.getElem?_cons_zero]
              repeat still_step
              refine wpStill_nil ?_
              refine plan_end (NoPanic.normal ?_)
              obtain ⟨T', K'⟩ := HT.out.drew'
              replace T' : St w.heap.size w we.drew [.blk W3.heap.size #[.slice none 0 0] 24, .blk W0.heap.size #[.slice (some ⟨bb, oo, none⟩) l.length c, .int .i64 s2, .int .i64 5] 83, .blk w.heap.size #[.slice none 0 0] 24] := T'
              replace K' : Keeps we [.blk W3.heap.size #[.slice none 0 0] 24, .blk W0.heap.size #[.slice (some ⟨bb, oo, none⟩) l.length c, .int .i64 s2, .int .i64 5] 83, .blk w.heap.size #[.slice none 0 0] 24] we.drew [.blk W3.heap.size #[.slice none 0 0] 24, .blk W0.heap.size #[.slice (some ⟨bb, oo, none⟩) l.length c, .int .i64 s2, .int .i64 5] 83, .blk w.heap.size #[.slice none 0 0] 24] := K'
              replace HT := Lib.hid T'
              replace HB := Lib.hid (HB.out.move (by decide) K')
              clear T' K'
              replace hz : w.heap.size + 1 ≤ we.drew.heap.size := hz
              clear r_rd q_rd z_rd
              obtain ⟨-, -, -, -, r_res, q_res, -⟩ := HT.out.rules
              have z_res : w.heap.size < we.drew.heap.size := (HT.out.in_ 2 rfl rfl).2
              go_wp2_with fail
              refine bodyPost_ret (v := .tuple #[.agg #[.slice none 0 0], .int .i64 5]) (by simp [results, Tryd.results20, go_sem, r_res]) rfl ?_
              exact DecD.bad HE.out HT.out.below
          · have hn := n.toNat_lt
            have hn0 : l[s2]? = some n := by rw [Hs2.out, Hs1.out, ← hl9]; rfl
            have hd3 : l.drop (s2 + 1) = l0 := by rw [Hs2.out, Hs1.out, ← hl9]; rfl
            have hlen3 : 3 ≤ l.length := by rw [← hl9]; simp
            obtain ⟨s3, hs3⟩ : ∃ s, s = s2 + 1 := ⟨_, rfl⟩
            refine (one_ok _ s2 (Fr 0 [.blk W3.heap.size #[.slice none 0 0] 24, .blk W0.heap.size #[.slice (some ⟨bb, oo, none⟩) l.length c, .int .i64 s2, .int .i64 0] 83, .blk w.heap.size #[.slice none 0 0] 24]) (not_fr (i := 1) rfl) _ _ c l n _ (HT.out.heap 1 rfl) HB.out hn0 (by omega)).mono ?_
            rintro en W6 ⟨rfl, ho, hd⟩
            rw [← hs3] at hd
            have Hs3 := Lib.hid hs3
            have bs3 : s3 ≤ l.length := by have := (List.getElem?_eq_some_iff.1 hn0).1; omega
            clear hs3
            clear r_rd q_rd r_res q_res z_rd z_res
            obtain ⟨T', K'⟩ := HT.out.only 1 rfl ho hd
            replace T' : St w.heap.size w W6 [.blk W3.heap.size #[.slice none 0 0] 24, .blk W0.heap.size #[.slice (some ⟨bb, oo, none⟩) l.length c, .int .i64 s3, .int .i64 0] 83, .blk w.heap.size #[.slice none 0 0] 24] := T'
            replace K' : Keeps W5 [.blk W3.heap.size #[.slice none 0 0] 24, .blk W0.heap.size #[.slice (some ⟨bb, oo, none⟩) l.length c, .int .i64 s2, .int .i64 0] 83, .blk w.heap.size #[.slice none 0 0] 24] W6 [.blk W3.heap.size #[.slice none 0 0] 24, .blk W0.heap.size #[.slice (some ⟨bb, oo, none⟩) l.length c, .int .i64 s3, .int .i64 0] 83, .blk w.heap.size #[.slice none 0 0] 24] := K'
            replace HT := Lib.hid T'
            replace HB := Lib.hid (HB.out.move (by decide) K')
            clear T' K'
            replace hz : w.heap.size + 1 ≤ W6.heap.size := Nat.le_trans hz ho.size
            clear ho hd
            obtain ⟨r_p, q_p, r_rd, q_rd, r_res, q_res, -⟩ := HT.out.rules
            have z_p : W3.heap.size < W6.heap.size := (HT.out.in_ 0 rfl rfl).2
            have z_rd : W0.heap.size < W6.heap.size := (HT.out.in_ 1 rfl rfl).2
            have z_res : w.heap.size < W6.heap.size := (HT.out.in_ 2 rfl rfl).2
            go_wp2_with fail
            clear r_p q_p r_rd q_rd r_res q_res z_p z_rd z_res
            rw [← Hs3.out] at hd3
            have hz5 : W6.heap.size ≤ W6.heap.size := Nat.le_refl _
            obtain ⟨T', K'⟩ := HT.out.nilRow w.heap.size 44 1
            replace T' : St w.heap.size w W6 [.row w.heap.size 44 1 (.slice none 0 0) 0 (cat []), .blk W3.heap.size #[.slice none 0 0] 24, .blk W0.heap.size #[.slice (some ⟨bb, oo, none⟩) l.length c, .int .i64 s3, .int .i64 0] 83, .blk w.heap.size #[.slice none 0 0] 24] := T'
            replace K' : Keeps W6 [.blk W3.heap.size #[.slice none 0 0] 24, .blk W0.heap.size #[.slice (some ⟨bb, oo, none⟩) l.length c, .int .i64 s3, .int .i64 0] 83, .blk w.heap.size #[.slice none 0 0] 24] W6 [.row w.heap.size 44 1 (.slice none 0 0) 0 (cat []), .blk W3.heap.size #[.slice none 0 0] 24, .blk W0.heap.size #[.slice (some ⟨bb, oo, none⟩) l.length c, .int .i64 s3, .int .i64 0] 83, .blk w.heap.size #[.slice none 0 0] 24] := K'
            replace HT := Lib.hid T'
            replace HB := Lib.hid (HB.out.move (by decide) K')
            clear T' K'
            obtain ⟨N, hN⟩ : ∃ N, n.toNat = N := ⟨_, rfl⟩
            have hN2 : N < 256 := by omega
            rw [hN]
            have HEnd : Hid (∀ r, kindsD N (I8 l0) = r → progD (I8 l) = endD r) := Lib.hid (by intro r hr; rw [← hl9]; exact prog_kinds (by rw [hl9]; exact hbig) (by rw [hN]; exact hr))
            have hs3l := bs3
            clear hbig i1 hl9 hx0 hy0 hn0 hlen hrd
            go_loopw [7] (fun i wr => ∃ (k si : Nat) (vK : Value) (er : Int) (css : List (List Value)), i = .int .i64 k ∧ k ≤ N ∧ si ≤ l.length ∧ W6.heap.size ≤ wr.heap.size ∧ St w.heap.size w wr [.row w.heap.size 44 1 vK k (cat css), .blk W3.heap.size #[vK] 24, .blk W0.heap.size #[.slice (some ⟨bb, oo, none⟩) l.length c, .int .i64 si, .int .i64 er] 83, .blk w.heap.size #[.slice none 0 0] 24] ∧ RdSl bE wr (Fr 0 [.row w.heap.size 44 1 vK k (cat css), .blk W3.heap.size #[vK] 24, .blk W0.heap.size #[.slice (some ⟨bb, oo, none⟩) l.length c, .int .i64 si, .int .i64 er] 83, .blk w.heap.size #[.slice none 0 0] 24]) (.slice (some ⟨bb, oo, none⟩) l.length c) l ∧ ((er = 0 ∧ ∃ (ps : List (List Ins)), Held pgE wr (Fr w.heap.size [.row w.heap.size 44 1 vK k (cat css), .blk W3.heap.size #[vK] 24, .blk W0.heap.size #[.slice (some ⟨bb, oo, none⟩) l.length c, .int .i64 si, .int .i64 er] 83, .blk w.heap.size #[.slice none 0 0] 24]) css ps ∧ ps.length = k ∧ kindsD N (I8 l0) = pre ps (kindsD (N - k) (I8 (l.drop si)))) ∨ (er ≠ 0 ∧ kindsD N (I8 l0) = .error er))) (fun i _ => N - (intOf i).toNat)
            case atStart => exact ⟨0, s3, .slice none 0 0, 0, [], rfl, Nat.zero_le _, hs3l, hz5, HT.out, HB.out, .inl ⟨rfl, [], Held.nil, rfl, by rw [hd3]; exact (pre_nil _).symm⟩⟩
            case round =>
              generalize wr = wq at *
              clear HT HB hz5
              obtain ⟨k, si, vK, er, css, rfl, hk, hsi, hz5, ht, hb, hst⟩ := hrel
              have HT := Lib.hid ht
              have HB := Lib.hid hb
              clear ht hb
              obtain ⟨Ak, ck, rfl⟩ := own_form (HT.out.own 0 rfl)
              rcases hst with ⟨rfl, ps, hH, hps, hE⟩ | ⟨her, hE⟩
              · have HH := Lib.hid hH
                have HE := Lib.hid hE
                clear hH hE
                by_cases hlt : k < N
                · have i2 : (k : Int) < (N : Int) := by omega
                  obtain ⟨r_p, q_p, r_rd, q_rd, r_res, q_res, -⟩ := HT.out.rules
                  have z_p : W3.heap.size < wq.heap.size := (HT.out.in_ 1 rfl rfl).2
                  have z_rd : W0.heap.size < wq.heap.size := (HT.out.in_ 2 rfl rfl).2
                  have z_res : w.heap.size < wq.heap.size := (HT.out.in_ 3 rfl rfl).2
                  go_wp2_with fail
                  by_cases hsl : si < l.length
                  · obtain ⟨m, hm⟩ : ∃ m, l[si]? = some m := ⟨_, List.getElem?_eq_getElem hsl⟩
                    have hm8 := m.toNat_lt
                    have hdm := drop_at hm
                    obtain ⟨t3, ht3⟩ : ∃ s, s = si + 1 := ⟨_, rfl⟩
                    refine (one_ok _ si (Fr 0 [.row w.heap.size 44 1 (.slice Ak k ck) k (cat css), .blk W3.heap.size #[.slice Ak k ck] 24, .blk W0.heap.size #[.slice (some ⟨bb, oo, none⟩) l.length c, .int .i64 si, .int .i64 0] 83, .blk w.heap.size #[.slice none 0 0] 24]) (not_fr (i := 2) rfl) _ _ c l m _ (HT.out.heap 2 rfl) HB.out hm (by omega)).mono ?_
                    rintro en wb ⟨rfl, ho, hd⟩
                    rw [← ht3] at hd
                    have Ht3 := Lib.hid ht3
                    have bt3 : t3 ≤ l.length := by have := (List.getElem?_eq_some_iff.1 hm).1; omega
                    clear ht3
                    clear r_p q_p r_rd q_rd r_res q_res z_p z_rd z_res
                    obtain ⟨T', K'⟩ := HT.out.only 2 rfl ho hd
                    replace T' : St w.heap.size w wb [.row w.heap.size 44 1 (.slice Ak k ck) k (cat css), .blk W3.heap.size #[.slice Ak k ck] 24, .blk W0.heap.size #[.slice (some ⟨bb, oo, none⟩) l.length c, .int .i64 t3, .int .i64 0] 83, .blk w.heap.size #[.slice none 0 0] 24] := T'
                    replace K' : Keeps wq [.row w.heap.size 44 1 (.slice Ak k ck) k (cat css), .blk W3.heap.size #[.slice Ak k ck] 24, .blk W0.heap.size #[.slice (some ⟨bb, oo, none⟩) l.length c, .int .i64 si, .int .i64 0] 83, .blk w.heap.size #[.slice none 0 0] 24] wb [.row w.heap.size 44 1 (.slice Ak k ck) k (cat css), .blk W3.heap.size #[.slice Ak k ck] 24, .blk W0.heap.size #[.slice (some ⟨bb, oo, none⟩) l.length c, .int .i64 t3, .int .i64 0] 83, .blk w.heap.size #[.slice none 0 0] 24] := K'
                    replace HT := Lib.hid T'
                    replace HB := Lib.hid (HB.out.move (by decide) K')
                    replace HH := Lib.hid (HH.out.move K')
                    clear T' K'
                    replace hz5 : W6.heap.size ≤ wb.heap.size := Nat.le_trans hz5 ho.size
                    clear ho hd
                    rw [← Ht3.out] at hdm
                    have Hdm := Lib.hid hdm
                    clear hdm hm
                    obtain ⟨r_p, q_p, r_rd, q_rd, r_res, q_res, -⟩ := HT.out.rules
                    have z_p : W3.heap.size < wb.heap.size := (HT.out.in_ 1 rfl rfl).2
                    have z_rd : W0.heap.size < wb.heap.size := (HT.out.in_ 2 rfl rfl).2
                    have z_res : w.heap.size < wb.heap.size := (HT.out.in_ 3 rfl rfl).2
                    go_wp2_with fail
                    clear r_p q_p r_rd q_rd r_res q_res z_p z_rd z_res
                    obtain ⟨T', K'⟩ := HT.out.nilRow w.heap.size 43 4
                    replace T' : St w.heap.size w wb [.row w.heap.size 43 4 (.slice none 0 0) 0 (cat []), .row w.heap.size 44 1 (.slice Ak k ck) k (cat css), .blk W3.heap.size #[.slice Ak k ck] 24, .blk W0.heap.size #[.slice (some ⟨bb, oo, none⟩) l.length c, .int .i64 t3, .int .i64 0] 83, .blk w.heap.size #[.slice none 0 0] 24] := T'
                    replace K' : Keeps wb [.row w.heap.size 44 1 (.slice Ak k ck) k (cat css), .blk W3.heap.size #[.slice Ak k ck] 24, .blk W0.heap.size #[.slice (some ⟨bb, oo, none⟩) l.length c, .int .i64 t3, .int .i64 0] 83, .blk w.heap.size #[.slice none 0 0] 24] wb [.row w.heap.size 43 4 (.slice none 0 0) 0 (cat []), .row w.heap.size 44 1 (.slice Ak k ck) k (cat css), .blk W3.heap.size #[.slice Ak k ck] 24, .blk W0.heap.size #[.slice (some ⟨bb, oo, none⟩) l.length c, .int .i64 t3, .int .i64 0] 83, .blk w.heap.size #[.slice none 0 0] 24] := K'
                    replace HT := Lib.hid T'
                    replace HB := Lib.hid (HB.out.move (by decide) K')
                    replace HH := Lib.hid (HH.out.move K')
                    clear T' K'
                    obtain ⟨M, hM⟩ : ∃ M, m.toNat = M := ⟨_, rfl⟩
                    have hM2 : M < 256 := by omega
                    rw [hM]
                    have ht3l := bt3
                    go_loopw [8, 10] (fun v i wr => ∃ (j sj : Nat) (vL : Value) (er : Int) (dss : List (List Value)), v = vL ∧ i = .int .i64 j ∧ j ≤ M ∧ sj ≤ l.length ∧ W6.heap.size ≤ wr.heap.size ∧ St w.heap.size w wr [.row w.heap.size 43 4 vL j (cat dss), .row w.heap.size 44 1 (.slice Ak k ck) k (cat css), .blk W3.heap.size #[.slice Ak k ck] 24, .blk W0.heap.size #[.slice (some ⟨bb, oo, none⟩) l.length c, .int .i64 sj, .int .i64 er] 83, .blk w.heap.size #[.slice none 0 0] 24] ∧ RdSl bE wr (Fr 0 [.row w.heap.size 43 4 vL j (cat dss), .row w.heap.size 44 1 (.slice Ak k ck) k (cat css), .blk W3.heap.size #[.slice Ak k ck] 24, .blk W0.heap.size #[.slice (some ⟨bb, oo, none⟩) l.length c, .int .i64 sj, .int .i64 er] 83, .blk w.heap.size #[.slice none 0 0] 24]) (.slice (some ⟨bb, oo, none⟩) l.length c) l ∧ Held pgE wr (Fr w.heap.size [.row w.heap.size 43 4 vL j (cat dss), .row w.heap.size 44 1 (.slice Ak k ck) k (cat css), .blk W3.heap.size #[.slice Ak k ck] 24, .blk W0.heap.size #[.slice (some ⟨bb, oo, none⟩) l.length c, .int .i64 sj, .int .i64 er] 83, .blk w.heap.size #[.slice none 0 0] 24]) css ps ∧ ((er = 0 ∧ ∃ (is : List Ins), Held insE wr (Fr w.heap.size [.row w.heap.size 43 4 vL j (cat dss), .row w.heap.size 44 1 (.slice Ak k ck) k (cat css), .blk W3.heap.size #[.slice Ak k ck] 24, .blk W0.heap.size #[.slice (some ⟨bb, oo, none⟩) l.length c, .int .i64 sj, .int .i64 er] 83, .blk w.heap.size #[.slice none 0 0] 24]) dss is ∧ is.length = j ∧ codeD M (I8 (l.drop t3)) = pre is (codeD (M - j) (I8 (l.drop sj)))) ∨ (er ≠ 0 ∧ codeD M (I8 (l.drop t3)) = .error er))) (fun _ i _ => M - (intOf i).toNat)
                    case atStart => exact ⟨0, t3, .slice none 0 0, 0, [], rfl, rfl, Nat.zero_le _, ht3l, hz5, HT.out, HB.out, HH.out, .inl ⟨rfl, [], Held.nil, rfl, (pre_nil _).symm⟩⟩
                    case round =>
                      generalize wr = wp at *
                      clear HT HB HH hz5
                      obtain ⟨j, sj, vL, er, dss, rfl, rfl, hj, hsj, hz5, ht, hb, hH, hst⟩ := hrel
                      have HT := Lib.hid ht
                      have HH := Lib.hid hH
                      have HB := Lib.hid hb
                      clear ht hH hb
                      obtain ⟨Aj, cj, rfl⟩ := own_form (HT.out.own 0 rfl)
                      rcases hst with ⟨rfl, is, hD, his, hC⟩ | ⟨her, hC⟩
                      · have HD := Lib.hid hD
                        have HC := Lib.hid hC
                        clear hD hC
                        by_cases hjl : j < M
                        · have i3 : (j : Int) < (M : Int) := by omega
                          obtain ⟨r_p, q_p, r_rd, q_rd, r_res, q_res, -⟩ := HT.out.rules
                          have z_p : W3.heap.size < wp.heap.size := (HT.out.in_ 2 rfl rfl).2
                          have z_rd : W0.heap.size < wp.heap.size := (HT.out.in_ 3 rfl rfl).2
                          have z_res : w.heap.size < wp.heap.size := (HT.out.in_ 4 rfl rfl).2
                          go_wp2_with fail
                          by_cases hxl : sj < l.length
                          · obtain ⟨x, hx⟩ : ∃ x, l[sj]? = some x := ⟨_, List.getElem?_eq_getElem hxl⟩
                            have hx8 := x.toNat_lt
                            have hdx := drop_at hx
                            obtain ⟨t1, ht1⟩ : ∃ s, s = sj + 1 := ⟨_, rfl⟩
                            refine (one_ok _ sj (Fr 0 [.row w.heap.size 43 4 (.slice Aj j cj) j (cat dss), .row w.heap.size 44 1 (.slice Ak k ck) k (cat css), .blk W3.heap.size #[.slice Ak k ck] 24, .blk W0.heap.size #[.slice (some ⟨bb, oo, none⟩) l.length c, .int .i64 sj, .int .i64 0] 83, .blk w.heap.size #[.slice none 0 0] 24]) (not_fr (i := 3) rfl) _ _ c l x _ (HT.out.heap 3 rfl) HB.out hx (by omega)).mono ?_
                            rintro en wi ⟨rfl, ho, hd⟩
                            rw [← ht1] at hd
                            have Ht1 := Lib.hid ht1
                            have bt1 : t1 ≤ l.length := by have := (List.getElem?_eq_some_iff.1 hx).1; omega
                            clear ht1
                            clear r_p q_p r_rd q_rd r_res q_res z_p z_rd z_res
                            obtain ⟨T', K'⟩ := HT.out.only 3 rfl ho hd
                            replace T' : St w.heap.size w wi [.row w.heap.size 43 4 (.slice Aj j cj) j (cat dss), .row w.heap.size 44 1 (.slice Ak k ck) k (cat css), .blk W3.heap.size #[.slice Ak k ck] 24, .blk W0.heap.size #[.slice (some ⟨bb, oo, none⟩) l.length c, .int .i64 t1, .int .i64 0] 83, .blk w.heap.size #[.slice none 0 0] 24] := T'
                            replace K' : Keeps wp [.row w.heap.size 43 4 (.slice Aj j cj) j (cat dss), .row w.heap.size 44 1 (.slice Ak k ck) k (cat css), .blk W3.heap.size #[.slice Ak k ck] 24, .blk W0.heap.size #[.slice (some ⟨bb, oo, none⟩) l.length c, .int .i64 sj, .int .i64 0] 83, .blk w.heap.size #[.slice none 0 0] 24] wi [.row w.heap.size 43 4 (.slice Aj j cj) j (cat dss), .row w.heap.size 44 1 (.slice Ak k ck) k (cat css), .blk W3.heap.size #[.slice Ak k ck] 24, .blk W0.heap.size #[.slice (some ⟨bb, oo, none⟩) l.length c, .int .i64 t1, .int .i64 0] 83, .blk w.heap.size #[.slice none 0 0] 24] := K'
                            replace HT := Lib.hid T'
                            replace HH := Lib.hid (HH.out.move K')
                            replace HB := Lib.hid (HB.out.move (by decide) K')
                            replace HD := Lib.hid (HD.out.move K')
                            clear T' K'
                            replace hz5 : W6.heap.size ≤ wi.heap.size := Nat.le_trans hz5 ho.size
                            clear ho hd
                            rw [← Ht1.out] at hdx
                            have Hdx := Lib.hid hdx
                            clear hdx hx
                            go_upto_region 19 with fail
                            obtain ⟨T', K'⟩ := HT.out.new' #[.int .i64 x.toNat, .int .i64 0, .int .i64 0, .int .i64 0] 43 wi.heap.size (by first | (simp; done) | rfl)
                            replace T' : St w.heap.size w ((wi.alloc (.cells #[.int .i64 x.toNat, .int .i64 0, .int .i64 0, .int .i64 0] 43))) [.blk wi.heap.size #[.int .i64 x.toNat, .int .i64 0, .int .i64 0, .int .i64 0] 43, .row w.heap.size 43 4 (.slice Aj j cj) j (cat dss), .row w.heap.size 44 1 (.slice Ak k ck) k (cat css), .blk W3.heap.size #[.slice Ak k ck] 24, .blk W0.heap.size #[.slice (some ⟨bb, oo, none⟩) l.length c, .int .i64 t1, .int .i64 0] 83, .blk w.heap.size #[.slice none 0 0] 24] := T'
                            replace K' : Keeps wi [.row w.heap.size 43 4 (.slice Aj j cj) j (cat dss), .row w.heap.size 44 1 (.slice Ak k ck) k (cat css), .blk W3.heap.size #[.slice Ak k ck] 24, .blk W0.heap.size #[.slice (some ⟨bb, oo, none⟩) l.length c, .int .i64 t1, .int .i64 0] 83, .blk w.heap.size #[.slice none 0 0] 24] ((wi.alloc (.cells #[.int .i64 x.toNat, .int .i64 0, .int .i64 0, .int .i64 0] 43))) [.blk wi.heap.size #[.int .i64 x.toNat, .int .i64 0, .int .i64 0, .int .i64 0] 43, .row w.heap.size 43 4 (.slice Aj j cj) j (cat dss), .row w.heap.size 44 1 (.slice Ak k ck) k (cat css), .blk W3.heap.size #[.slice Ak k ck] 24, .blk W0.heap.size #[.slice (some ⟨bb, oo, none⟩) l.length c, .int .i64 t1, .int .i64 0] 83, .blk w.heap.size #[.slice none 0 0] 24] := K'
                            replace HT := Lib.hid T'
                            replace HH := Lib.hid (HH.out.move K')
                            replace HB := Lib.hid (HB.out.move (by decide) K')
                            replace HD := Lib.hid (HD.out.move K')
                            clear T' K'
                            replace hz5 : W6.heap.size ≤ ((wi.alloc (.cells #[.int .i64 x.toNat, .int .i64 0, .int .i64 0, .int .i64 0] 43))).heap.size := Nat.le_trans hz5 (by simp)
                            generalize (wi.alloc (.cells #[.int .i64 x.toNat, .int .i64 0, .int .i64 0, .int .i64 0] 43)) = wo at *
                            replace hz5 : W6.heap.size ≤ wo.heap.size := hz5
                            obtain ⟨r_ib, q_ib, -, -, r_rd, q_rd, -⟩ := HT.out.rules
                            have z_ib : wi.heap.size < wo.heap.size := (HT.out.in_ 0 rfl rfl).2
                            have z_rd : W0.heap.size < wo.heap.size := (HT.out.in_ 4 rfl rfl).2
                            by_cases hop : (19 : Int) < (x.toNat : Int)
                            · have hI : instrF (I8 (l.drop sj)) = .error 3 := by rw [Hdx.out]; exact instr_far hop
                              have HI := Lib.hid hI
                              clear hI
                              go_upto_region 21 with fail
                              clear r_ib q_ib r_rd q_rd z_ib z_rd
                              obtain ⟨T', K'⟩ := HT.out.put 4 2 (.int .i64 3) rfl
                              replace T' : St w.heap.size w ((wo.setCell ⟨W0.heap.size, 2, none⟩ (.int .i64 3))) [.blk wi.heap.size #[.int .i64 x.toNat, .int .i64 0, .int .i64 0, .int .i64 0] 43, .row w.heap.size 43 4 (.slice Aj j cj) j (cat dss), .row w.heap.size 44 1 (.slice Ak k ck) k (cat css), .blk W3.heap.size #[.slice Ak k ck] 24, .blk W0.heap.size #[.slice (some ⟨bb, oo, none⟩) l.length c, .int .i64 t1, .int .i64 3] 83, .blk w.heap.size #[.slice none 0 0] 24] := T'
                              replace K' : Keeps wo [.blk wi.heap.size #[.int .i64 x.toNat, .int .i64 0, .int .i64 0, .int .i64 0] 43, .row w.heap.size 43 4 (.slice Aj j cj) j (cat dss), .row w.heap.size 44 1 (.slice Ak k ck) k (cat css), .blk W3.heap.size #[.slice Ak k ck] 24, .blk W0.heap.size #[.slice (some ⟨bb, oo, none⟩) l.length c, .int .i64 t1, .int .i64 0] 83, .blk w.heap.size #[.slice none 0 0] 24] ((wo.setCell ⟨W0.heap.size, 2, none⟩ (.int .i64 3))) [.blk wi.heap.size #[.int .i64 x.toNat, .int .i64 0, .int .i64 0, .int .i64 0] 43, .row w.heap.size 43 4 (.slice Aj j cj) j (cat dss), .row w.heap.size 44 1 (.slice Ak k ck) k (cat css), .blk W3.heap.size #[.slice Ak k ck] 24, .blk W0.heap.size #[.slice (some ⟨bb, oo, none⟩) l.length c, .int .i64 t1, .int .i64 3] 83, .blk w.heap.size #[.slice none 0 0] 24] := K'
                              replace HT := Lib.hid T'
                              replace HH := Lib.hid (HH.out.move K')
                              replace HB := Lib.hid (HB.out.move (by decide) K')
                              replace HD := Lib.hid (HD.out.move K')
                              clear T' K'
                              replace hz5 : W6.heap.size ≤ ((wo.setCell ⟨W0.heap.size, 2, none⟩ (.int .i64 3))).heap.size := by simpa using hz5
                              generalize wo.setCell ⟨W0.heap.size, 2, none⟩ (.int .i64 3) = wd at *
                              have hC1 : codeD M (I8 (l.drop t3)) = .error 3 := by rw [HC.out, show M - j = (M - j - 1) + 1 by omega, codeD_err (HI.out)]; rfl
                              replace HC := Lib.hid hC1
                              clear hC1 HD
                              obtain ⟨r_ib, q_ib, r_p, q_p, r_rd, q_rd, -⟩ := HT.out.rules
                              have z_ib : wi.heap.size < wd.heap.size := (HT.out.in_ 0 rfl rfl).2
                              have z_p : W3.heap.size < wd.heap.size := (HT.out.in_ 3 rfl rfl).2
                              have z_rd : W0.heap.size < wd.heap.size := (HT.out.in_ 4 rfl rfl).2
                              go_wp2_with (at_builtin; go_loud (refine wpList_append_css rfl (.tmp 121) (.tmp 123) _ rfl (e := 43) (size := 4) (bytes := 32) Tryd.underlying44 infoN rfl (by omega) HT.out 1 rfl rfl [Value.int .i64 x.toNat, Value.int .i64 0, Value.int .i64 0, Value.int .i64 0] 43 rfl rfl (by simp [Value.oneCell']) (by unfold maxLen; omega) (by omega) HT.out.base ?next))
                              case next =>
                                intro A8 c8 wk T' K' hs3
                                clear r_ib q_ib r_p q_p r_rd q_rd z_ib z_p z_rd
                                replace T' : St w.heap.size w wk [.blk wi.heap.size #[.int .i64 x.toNat, .int .i64 0, .int .i64 0, .int .i64 0] 43, .row w.heap.size 43 4 (.slice A8 (j + 1) c8) (j + 1) (cat (dss ++ [[Value.int .i64 x.toNat, Value.int .i64 0, Value.int .i64 0, Value.int .i64 0]])), .row w.heap.size 44 1 (.slice Ak k ck) k (cat css), .blk W3.heap.size #[.slice Ak k ck] 24, .blk W0.heap.size #[.slice (some ⟨bb, oo, none⟩) l.length c, .int .i64 t1, .int .i64 3] 83, .blk w.heap.size #[.slice none 0 0] 24] := T'
                                replace K' : Keeps wd [.blk wi.heap.size #[.int .i64 x.toNat, .int .i64 0, .int .i64 0, .int .i64 0] 43, .row w.heap.size 43 4 (.slice Aj j cj) j (cat dss), .row w.heap.size 44 1 (.slice Ak k ck) k (cat css), .blk W3.heap.size #[.slice Ak k ck] 24, .blk W0.heap.size #[.slice (some ⟨bb, oo, none⟩) l.length c, .int .i64 t1, .int .i64 3] 83, .blk w.heap.size #[.slice none 0 0] 24] wk [.blk wi.heap.size #[.int .i64 x.toNat, .int .i64 0, .int .i64 0, .int .i64 0] 43, .row w.heap.size 43 4 (.slice A8 (j + 1) c8) (j + 1) (cat (dss ++ [[Value.int .i64 x.toNat, Value.int .i64 0, Value.int .i64 0, Value.int .i64 0]])), .row w.heap.size 44 1 (.slice Ak k ck) k (cat css), .blk W3.heap.size #[.slice Ak k ck] 24, .blk W0.heap.size #[.slice (some ⟨bb, oo, none⟩) l.length c, .int .i64 t1, .int .i64 3] 83, .blk w.heap.size #[.slice none 0 0] 24] := K'
                                replace HT := Lib.hid T'
                                replace HH := Lib.hid (HH.out.move K')
                                replace HB := Lib.hid (HB.out.move (by decide) K')
                                clear T' K'
                                replace hz5 : W6.heap.size ≤ wk.heap.size := by omega
                                go_wp2_with fail
                                obtain ⟨T', K'⟩ := HT.out.drop 0
                                replace T' : St w.heap.size w wk [.row w.heap.size 43 4 (.slice A8 (j + 1) c8) (j + 1) (cat (dss ++ [[Value.int .i64 x.toNat, Value.int .i64 0, Value.int .i64 0, Value.int .i64 0]])), .row w.heap.size 44 1 (.slice Ak k ck) k (cat css), .blk W3.heap.size #[.slice Ak k ck] 24, .blk W0.heap.size #[.slice (some ⟨bb, oo, none⟩) l.length c, .int .i64 t1, .int .i64 3] 83, .blk w.heap.size #[.slice none 0 0] 24] := T'
                                replace K' : Keeps wk [.blk wi.heap.size #[.int .i64 x.toNat, .int .i64 0, .int .i64 0, .int .i64 0] 43, .row w.heap.size 43 4 (.slice A8 (j + 1) c8) (j + 1) (cat (dss ++ [[Value.int .i64 x.toNat, Value.int .i64 0, Value.int .i64 0, Value.int .i64 0]])), .row w.heap.size 44 1 (.slice Ak k ck) k (cat css), .blk W3.heap.size #[.slice Ak k ck] 24, .blk W0.heap.size #[.slice (some ⟨bb, oo, none⟩) l.length c, .int .i64 t1, .int .i64 3] 83, .blk w.heap.size #[.slice none 0 0] 24] wk [.row w.heap.size 43 4 (.slice A8 (j + 1) c8) (j + 1) (cat (dss ++ [[Value.int .i64 x.toNat, Value.int .i64 0, Value.int .i64 0, Value.int .i64 0]])), .row w.heap.size 44 1 (.slice Ak k ck) k (cat css), .blk W3.heap.size #[.slice Ak k ck] 24, .blk W0.heap.size #[.slice (some ⟨bb, oo, none⟩) l.length c, .int .i64 t1, .int .i64 3] 83, .blk w.heap.size #[.slice none 0 0] 24] := K'
                                replace HT := Lib.hid T'
                                replace HH := Lib.hid (HH.out.move K')
                                replace HB := Lib.hid (HB.out.move (by decide) K')
                                clear T' K'
                                go_roundw
                                case rel => exact ⟨j + 1, t1, .slice A8 (j + 1) c8, 3, dss ++ [[Value.int .i64 x.toNat, Value.int .i64 0, Value.int .i64 0, Value.int .i64 0]], rfl, by go_num, by omega, by omega, hz5, HT.out, HB.out, HH.out, .inr ⟨by first | decide | assumption, HC.out⟩⟩
                                case measure => simp [intOf]; omega
                            · have Hop := Lib.hid hop
                              obtain ⟨xa, hxa⟩ : ∃ xa, aB (x.toNat : Int) = xa := ⟨_, rfl⟩
                              obtain ⟨xb, hxb⟩ : ∃ xb, nB (x.toNat : Int) = xb := ⟨_, rfl⟩
                              have Hxa := Lib.hid hxa
                              have Hxb := Lib.hid hxb
                              clear hxa hxb
                              go_wp2_with fail
                              refine (hasA_is _ xa Hxa.out _).mono ?_
                              rintro e w' ⟨rfl, rfl⟩
                              cases xa
                              · have HRG := Lib.hid (regs_no Hxa.out (l.drop t1))
                                clear r_ib q_ib r_rd q_rd z_ib z_rd
                                obtain ⟨r_ib, q_ib, -, -, r_rd, q_rd, -⟩ := HT.out.rules
                                have z_ib : wi.heap.size < wo.heap.size := (HT.out.in_ 0 rfl rfl).2
                                have z_rd : W0.heap.size < wo.heap.size := (HT.out.in_ 4 rfl rfl).2
                                go_wp2_with fail
                                refine (hasN_is _ xb Hxb.out _).mono ?_
                                rintro e w' ⟨rfl, rfl⟩
                                cases xb
                                · have hI : instrF (I8 (l.drop sj)) = .ok (⟨x.toNat, 0, 0, 0⟩, I8 (l.drop t1)) := by rw [Hdx.out]; exact instr_all (by have := Hop.out; omega) HRG.out (next_no Hxb.out _)
                                  have HI := Lib.hid hI
                                  clear hI
                                  clear r_ib q_ib r_rd q_rd z_ib z_rd
                                  have hC1 : codeD M (I8 (l.drop t3)) = pre (is ++ [⟨x.toNat, 0, 0, 0⟩]) (codeD (M - (j + 1)) (I8 (l.drop t1))) := by rw [HC.out, show M - j = (M - (j + 1)) + 1 by omega, codeD_ok (HI.out), pre_pre]
                                  replace HC := Lib.hid hC1
                                  clear hC1
                                  obtain ⟨r_ib, q_ib, r_p, q_p, r_rd, q_rd, -⟩ := HT.out.rules
                                  have z_ib : wi.heap.size < wo.heap.size := (HT.out.in_ 0 rfl rfl).2
                                  have z_p : W3.heap.size < wo.heap.size := (HT.out.in_ 3 rfl rfl).2
                                  have z_rd : W0.heap.size < wo.heap.size := (HT.out.in_ 4 rfl rfl).2
                                  go_wp2_with (at_builtin; go_loud (refine wpList_append_css rfl (.tmp 121) (.tmp 123) _ rfl (e := 43) (size := 4) (bytes := 32) Tryd.underlying44 infoN rfl (by omega) HT.out 1 rfl rfl [Value.int .i64 x.toNat, Value.int .i64 0, Value.int .i64 0, Value.int .i64 0] 43 rfl rfl (by simp [Value.oneCell']) (by unfold maxLen; omega) (by omega) HT.out.base ?next))
                                  case next =>
                                    intro A8 c8 wk T' K' hs3
                                    clear r_ib q_ib r_p q_p r_rd q_rd z_ib z_p z_rd
                                    replace T' : St w.heap.size w wk [.blk wi.heap.size #[.int .i64 x.toNat, .int .i64 0, .int .i64 0, .int .i64 0] 43, .row w.heap.size 43 4 (.slice A8 (j + 1) c8) (j + 1) (cat (dss ++ [[Value.int .i64 x.toNat, Value.int .i64 0, Value.int .i64 0, Value.int .i64 0]])), .row w.heap.size 44 1 (.slice Ak k ck) k (cat css), .blk W3.heap.size #[.slice Ak k ck] 24, .blk W0.heap.size #[.slice (some ⟨bb, oo, none⟩) l.length c, .int .i64 t1, .int .i64 0] 83, .blk w.heap.size #[.slice none 0 0] 24] := T'
                                    replace K' : Keeps wo [.blk wi.heap.size #[.int .i64 x.toNat, .int .i64 0, .int .i64 0, .int .i64 0] 43, .row w.heap.size 43 4 (.slice Aj j cj) j (cat dss), .row w.heap.size 44 1 (.slice Ak k ck) k (cat css), .blk W3.heap.size #[.slice Ak k ck] 24, .blk W0.heap.size #[.slice (some ⟨bb, oo, none⟩) l.length c, .int .i64 t1, .int .i64 0] 83, .blk w.heap.size #[.slice none 0 0] 24] wk [.blk wi.heap.size #[.int .i64 x.toNat, .int .i64 0, .int .i64 0, .int .i64 0] 43, .row w.heap.size 43 4 (.slice A8 (j + 1) c8) (j + 1) (cat (dss ++ [[Value.int .i64 x.toNat, Value.int .i64 0, Value.int .i64 0, Value.int .i64 0]])), .row w.heap.size 44 1 (.slice Ak k ck) k (cat css), .blk W3.heap.size #[.slice Ak k ck] 24, .blk W0.heap.size #[.slice (some ⟨bb, oo, none⟩) l.length c, .int .i64 t1, .int .i64 0] 83, .blk w.heap.size #[.slice none 0 0] 24] := K'
                                    replace HT := Lib.hid T'
                                    replace HH := Lib.hid (HH.out.move K')
                                    replace HB := Lib.hid (HB.out.move (by decide) K')
                                    replace HD := Lib.hid (HD.out.move K')
                                    clear T' K'
                                    replace hz5 : W6.heap.size ≤ wk.heap.size := by omega
                                    go_wp2_with fail
                                    obtain ⟨T', K'⟩ := HT.out.drop 0
                                    replace T' : St w.heap.size w wk [.row w.heap.size 43 4 (.slice A8 (j + 1) c8) (j + 1) (cat (dss ++ [[Value.int .i64 x.toNat, Value.int .i64 0, Value.int .i64 0, Value.int .i64 0]])), .row w.heap.size 44 1 (.slice Ak k ck) k (cat css), .blk W3.heap.size #[.slice Ak k ck] 24, .blk W0.heap.size #[.slice (some ⟨bb, oo, none⟩) l.length c, .int .i64 t1, .int .i64 0] 83, .blk w.heap.size #[.slice none 0 0] 24] := T'
                                    replace K' : Keeps wk [.blk wi.heap.size #[.int .i64 x.toNat, .int .i64 0, .int .i64 0, .int .i64 0] 43, .row w.heap.size 43 4 (.slice A8 (j + 1) c8) (j + 1) (cat (dss ++ [[Value.int .i64 x.toNat, Value.int .i64 0, Value.int .i64 0, Value.int .i64 0]])), .row w.heap.size 44 1 (.slice Ak k ck) k (cat css), .blk W3.heap.size #[.slice Ak k ck] 24, .blk W0.heap.size #[.slice (some ⟨bb, oo, none⟩) l.length c, .int .i64 t1, .int .i64 0] 83, .blk w.heap.size #[.slice none 0 0] 24] wk [.row w.heap.size 43 4 (.slice A8 (j + 1) c8) (j + 1) (cat (dss ++ [[Value.int .i64 x.toNat, Value.int .i64 0, Value.int .i64 0, Value.int .i64 0]])), .row w.heap.size 44 1 (.slice Ak k ck) k (cat css), .blk W3.heap.size #[.slice Ak k ck] 24, .blk W0.heap.size #[.slice (some ⟨bb, oo, none⟩) l.length c, .int .i64 t1, .int .i64 0] 83, .blk w.heap.size #[.slice none 0 0] 24] := K'
                                    replace HT := Lib.hid T'
                                    replace HH := Lib.hid (HH.out.move K')
                                    replace HB := Lib.hid (HB.out.move (by decide) K')
                                    replace HD := Lib.hid (HD.out.move K')
                                    clear T' K'
                                    have hnew := HD.out.append (Held.single (E := insE) (cs := [Value.int .i64 x.toNat, Value.int .i64 0, Value.int .i64 0, Value.int .i64 0]) (x := ⟨x.toNat, 0, 0, 0⟩) rfl rfl)
                                    go_roundw
                                    case rel => exact ⟨j + 1, t1, .slice A8 (j + 1) c8, 0, dss ++ [[Value.int .i64 x.toNat, Value.int .i64 0, Value.int .i64 0, Value.int .i64 0]], rfl, by go_num, by omega, by omega, hz5, HT.out, HB.out, HH.out, .inl ⟨rfl, is ++ [⟨x.toNat, 0, 0, 0⟩], hnew, by simp [his], HC.out⟩⟩
                                    case measure => simp [intOf]; omega
                                · go_wp2_with fail
                                  refine (numberS_any _ t1 (Fr 0 [.blk wi.heap.size #[.int .i64 x.toNat, .int .i64 0, .int .i64 0, .int .i64 0] 43, .row w.heap.size 43 4 (.slice Aj j cj) j (cat dss), .row w.heap.size 44 1 (.slice Ak k ck) k (cat css), .blk W3.heap.size #[.slice Ak k ck] 24, .blk W0.heap.size #[.slice (some ⟨bb, oo, none⟩) l.length c, .int .i64 t1, .int .i64 0] 83, .blk w.heap.size #[.slice none 0 0] 24]) (not_fr (i := 4) rfl) _ _ c l _ (HT.out.heap 4 rfl) HB.out (by omega) h5).mono ?_
                                  rintro en wn ⟨nn, s5, e5, rfl, ho, hd, hs5, hst⟩
                                  clear r_ib q_ib r_rd q_rd z_ib z_rd
                                  obtain ⟨T', K'⟩ := HT.out.only 4 rfl ho hd
                                  replace T' : St w.heap.size w wn [.blk wi.heap.size #[.int .i64 x.toNat, .int .i64 0, .int .i64 0, .int .i64 0] 43, .row w.heap.size 43 4 (.slice Aj j cj) j (cat dss), .row w.heap.size 44 1 (.slice Ak k ck) k (cat css), .blk W3.heap.size #[.slice Ak k ck] 24, .blk W0.heap.size #[.slice (some ⟨bb, oo, none⟩) l.length c, .int .i64 s5, .int .i64 e5] 83, .blk w.heap.size #[.slice none 0 0] 24] := T'
                                  replace K' : Keeps wo [.blk wi.heap.size #[.int .i64 x.toNat, .int .i64 0, .int .i64 0, .int .i64 0] 43, .row w.heap.size 43 4 (.slice Aj j cj) j (cat dss), .row w.heap.size 44 1 (.slice Ak k ck) k (cat css), .blk W3.heap.size #[.slice Ak k ck] 24, .blk W0.heap.size #[.slice (some ⟨bb, oo, none⟩) l.length c, .int .i64 t1, .int .i64 0] 83, .blk w.heap.size #[.slice none 0 0] 24] wn [.blk wi.heap.size #[.int .i64 x.toNat, .int .i64 0, .int .i64 0, .int .i64 0] 43, .row w.heap.size 43 4 (.slice Aj j cj) j (cat dss), .row w.heap.size 44 1 (.slice Ak k ck) k (cat css), .blk W3.heap.size #[.slice Ak k ck] 24, .blk W0.heap.size #[.slice (some ⟨bb, oo, none⟩) l.length c, .int .i64 s5, .int .i64 e5] 83, .blk w.heap.size #[.slice none 0 0] 24] := K'
                                  replace HT := Lib.hid T'
                                  replace HH := Lib.hid (HH.out.move K')
                                  replace HB := Lib.hid (HB.out.move (by decide) K')
                                  replace HD := Lib.hid (HD.out.move K')
                                  clear T' K'
                                  replace hz5 : W6.heap.size ≤ wn.heap.size := Nat.le_trans hz5 ho.size
                                  clear ho hd
                                  obtain ⟨r_ib, q_ib, -, -, r_rd, q_rd, -⟩ := HT.out.rules
                                  have z_ib : wi.heap.size < wn.heap.size := (HT.out.in_ 0 rfl rfl).2
                                  have z_rd : W0.heap.size < wn.heap.size := (HT.out.in_ 4 rfl rfl).2
                                  go_upto_region 29 with fail
                                  clear r_ib q_ib r_rd q_rd z_ib z_rd
                                  obtain ⟨T', K'⟩ := HT.out.put 0 3 (.int .i64 nn) rfl
                                  replace T' : St w.heap.size w ((wn.setCell ⟨wi.heap.size, 3, none⟩ (.int .i64 nn))) [.blk wi.heap.size #[.int .i64 x.toNat, .int .i64 0, .int .i64 0, .int .i64 nn] 43, .row w.heap.size 43 4 (.slice Aj j cj) j (cat dss), .row w.heap.size 44 1 (.slice Ak k ck) k (cat css), .blk W3.heap.size #[.slice Ak k ck] 24, .blk W0.heap.size #[.slice (some ⟨bb, oo, none⟩) l.length c, .int .i64 s5, .int .i64 e5] 83, .blk w.heap.size #[.slice none 0 0] 24] := T'
                                  replace K' : Keeps wn [.blk wi.heap.size #[.int .i64 x.toNat, .int .i64 0, .int .i64 0, .int .i64 0] 43, .row w.heap.size 43 4 (.slice Aj j cj) j (cat dss), .row w.heap.size 44 1 (.slice Ak k ck) k (cat css), .blk W3.heap.size #[.slice Ak k ck] 24, .blk W0.heap.size #[.slice (some ⟨bb, oo, none⟩) l.length c, .int .i64 s5, .int .i64 e5] 83, .blk w.heap.size #[.slice none 0 0] 24] ((wn.setCell ⟨wi.heap.size, 3, none⟩ (.int .i64 nn))) [.blk wi.heap.size #[.int .i64 x.toNat, .int .i64 0, .int .i64 0, .int .i64 nn] 43, .row w.heap.size 43 4 (.slice Aj j cj) j (cat dss), .row w.heap.size 44 1 (.slice Ak k ck) k (cat css), .blk W3.heap.size #[.slice Ak k ck] 24, .blk W0.heap.size #[.slice (some ⟨bb, oo, none⟩) l.length c, .int .i64 s5, .int .i64 e5] 83, .blk w.heap.size #[.slice none 0 0] 24] := K'
                                  replace HT := Lib.hid T'
                                  replace HH := Lib.hid (HH.out.move K')
                                  replace HB := Lib.hid (HB.out.move (by decide) K')
                                  replace HD := Lib.hid (HD.out.move K')
                                  clear T' K'
                                  replace hz5 : W6.heap.size ≤ ((wn.setCell ⟨wi.heap.size, 3, none⟩ (.int .i64 nn))).heap.size := by simpa using hz5
                                  generalize wn.setCell ⟨wi.heap.size, 3, none⟩ (.int .i64 nn) = wm at *
                                  rcases hst with ⟨rfl, mm, hnum, hnn⟩ | ⟨he5, hnum⟩
                                  · have hI : instrF (I8 (l.drop sj)) = .ok (⟨x.toNat, 0, 0, nn⟩, I8 (l.drop s5)) := by rw [Hdx.out, hnn]; exact instr_all (by have := Hop.out; omega) HRG.out (next_ok Hxb.out hnum)
                                    have HI := Lib.hid hI
                                    clear hI hnum hnn
                                    have hC1 : codeD M (I8 (l.drop t3)) = pre (is ++ [⟨x.toNat, 0, 0, nn⟩]) (codeD (M - (j + 1)) (I8 (l.drop s5))) := by rw [HC.out, show M - j = (M - (j + 1)) + 1 by omega, codeD_ok (HI.out), pre_pre]
                                    replace HC := Lib.hid hC1
                                    clear hC1
                                    obtain ⟨r_ib, q_ib, r_p, q_p, r_rd, q_rd, -⟩ := HT.out.rules
                                    have z_ib : wi.heap.size < wm.heap.size := (HT.out.in_ 0 rfl rfl).2
                                    have z_p : W3.heap.size < wm.heap.size := (HT.out.in_ 3 rfl rfl).2
                                    have z_rd : W0.heap.size < wm.heap.size := (HT.out.in_ 4 rfl rfl).2
                                    go_wp2_with (at_builtin; go_loud (refine wpList_append_css rfl (.tmp 121) (.tmp 123) _ rfl (e := 43) (size := 4) (bytes := 32) Tryd.underlying44 infoN rfl (by omega) HT.out 1 rfl rfl [Value.int .i64 x.toNat, Value.int .i64 0, Value.int .i64 0, Value.int .i64 nn] 43 rfl rfl (by simp [Value.oneCell']) (by unfold maxLen; omega) (by omega) HT.out.base ?next))
                                    case next =>
                                      intro A8 c8 wk T' K' hs3
                                      clear r_ib q_ib r_p q_p r_rd q_rd z_ib z_p z_rd
                                      replace T' : St w.heap.size w wk [.blk wi.heap.size #[.int .i64 x.toNat, .int .i64 0, .int .i64 0, .int .i64 nn] 43, .row w.heap.size 43 4 (.slice A8 (j + 1) c8) (j + 1) (cat (dss ++ [[Value.int .i64 x.toNat, Value.int .i64 0, Value.int .i64 0, Value.int .i64 nn]])), .row w.heap.size 44 1 (.slice Ak k ck) k (cat css), .blk W3.heap.size #[.slice Ak k ck] 24, .blk W0.heap.size #[.slice (some ⟨bb, oo, none⟩) l.length c, .int .i64 s5, .int .i64 0] 83, .blk w.heap.size #[.slice none 0 0] 24] := T'
                                      replace K' : Keeps wm [.blk wi.heap.size #[.int .i64 x.toNat, .int .i64 0, .int .i64 0, .int .i64 nn] 43, .row w.heap.size 43 4 (.slice Aj j cj) j (cat dss), .row w.heap.size 44 1 (.slice Ak k ck) k (cat css), .blk W3.heap.size #[.slice Ak k ck] 24, .blk W0.heap.size #[.slice (some ⟨bb, oo, none⟩) l.length c, .int .i64 s5, .int .i64 0] 83, .blk w.heap.size #[.slice none 0 0] 24] wk [.blk wi.heap.size #[.int .i64 x.toNat, .int .i64 0, .int .i64 0, .int .i64 nn] 43, .row w.heap.size 43 4 (.slice A8 (j + 1) c8) (j + 1) (cat (dss ++ [[Value.int .i64 x.toNat, Value.int .i64 0, Value.int .i64 0, Value.int .i64 nn]])), .row w.heap.size 44 1 (.slice Ak k ck) k (cat css), .blk W3.heap.size #[.slice Ak k ck] 24, .blk W0.heap.size #[.slice (some ⟨bb, oo, none⟩) l.length c, .int .i64 s5, .int .i64 0] 83, .blk w.heap.size #[.slice none 0 0] 24] := K'
                                      replace HT := Lib.hid T'
                                      replace HH := Lib.hid (HH.out.move K')
                                      replace HB := Lib.hid (HB.out.move (by decide) K')
                                      replace HD := Lib.hid (HD.out.move K')
                                      clear T' K'
                                      replace hz5 : W6.heap.size ≤ wk.heap.size := by omega
                                      go_wp2_with fail
                                      obtain ⟨T', K'⟩ := HT.out.drop 0
                                      replace T' : St w.heap.size w wk [.row w.heap.size 43 4 (.slice A8 (j + 1) c8) (j + 1) (cat (dss ++ [[Value.int .i64 x.toNat, Value.int .i64 0, Value.int .i64 0, Value.int .i64 nn]])), .row w.heap.size 44 1 (.slice Ak k ck) k (cat css), .blk W3.heap.size #[.slice Ak k ck] 24, .blk W0.heap.size #[.slice (some ⟨bb, oo, none⟩) l.length c, .int .i64 s5, .int .i64 0] 83, .blk w.heap.size #[.slice none 0 0] 24] := T'
                                      replace K' : Keeps wk [.blk wi.heap.size #[.int .i64 x.toNat, .int .i64 0, .int .i64 0, .int .i64 nn] 43, .row w.heap.size 43 4 (.slice A8 (j + 1) c8) (j + 1) (cat (dss ++ [[Value.int .i64 x.toNat, Value.int .i64 0, Value.int .i64 0, Value.int .i64 nn]])), .row w.heap.size 44 1 (.slice Ak k ck) k (cat css), .blk W3.heap.size #[.slice Ak k ck] 24, .blk W0.heap.size #[.slice (some ⟨bb, oo, none⟩) l.length c, .int .i64 s5, .int .i64 0] 83, .blk w.heap.size #[.slice none 0 0] 24] wk [.row w.heap.size 43 4 (.slice A8 (j + 1) c8) (j + 1) (cat (dss ++ [[Value.int .i64 x.toNat, Value.int .i64 0, Value.int .i64 0, Value.int .i64 nn]])), .row w.heap.size 44 1 (.slice Ak k ck) k (cat css), .blk W3.heap.size #[.slice Ak k ck] 24, .blk W0.heap.size #[.slice (some ⟨bb, oo, none⟩) l.length c, .int .i64 s5, .int .i64 0] 83, .blk w.heap.size #[.slice none 0 0] 24] := K'
                                      replace HT := Lib.hid T'
                                      replace HH := Lib.hid (HH.out.move K')
                                      replace HB := Lib.hid (HB.out.move (by decide) K')
                                      replace HD := Lib.hid (HD.out.move K')
                                      clear T' K'
                                      have hnew := HD.out.append (Held.single (E := insE) (cs := [Value.int .i64 x.toNat, Value.int .i64 0, Value.int .i64 0, Value.int .i64 nn]) (x := ⟨x.toNat, 0, 0, nn⟩) rfl rfl)
                                      go_roundw
                                      case rel => exact ⟨j + 1, s5, .slice A8 (j + 1) c8, 0, dss ++ [[Value.int .i64 x.toNat, Value.int .i64 0, Value.int .i64 0, Value.int .i64 nn]], rfl, by go_num, by omega, by omega, hz5, HT.out, HB.out, HH.out, .inl ⟨rfl, is ++ [⟨x.toNat, 0, 0, nn⟩], hnew, by simp [his], HC.out⟩⟩
                                      case measure => simp [intOf]; omega
                                  · have hI : instrF (I8 (l.drop sj)) = .error e5 := by rw [Hdx.out]; exact instr_nerr (by have := Hop.out; omega) HRG.out (next_err Hxb.out hnum)
                                    have HI := Lib.hid hI
                                    clear hI hnum
                                    have he50 : (e5 == 0) = false := by simpa using he5
                                    have hC1 : codeD M (I8 (l.drop t3)) = .error e5 := by rw [HC.out, show M - j = (M - j - 1) + 1 by omega, codeD_err (HI.out)]; rfl
                                    replace HC := Lib.hid hC1
                                    clear hC1 HD
                                    obtain ⟨r_ib, q_ib, r_p, q_p, r_rd, q_rd, -⟩ := HT.out.rules
                                    have z_ib : wi.heap.size < wm.heap.size := (HT.out.in_ 0 rfl rfl).2
                                    have z_p : W3.heap.size < wm.heap.size := (HT.out.in_ 3 rfl rfl).2
                                    have z_rd : W0.heap.size < wm.heap.size := (HT.out.in_ 4 rfl rfl).2
                                    go_wp2_with (at_builtin; go_loud (refine wpList_append_css rfl (.tmp 121) (.tmp 123) _ rfl (e := 43) (size := 4) (bytes := 32) Tryd.underlying44 infoN rfl (by omega) HT.out 1 rfl rfl [Value.int .i64 x.toNat, Value.int .i64 0, Value.int .i64 0, Value.int .i64 nn] 43 rfl rfl (by simp [Value.oneCell']) (by unfold maxLen; omega) (by omega) HT.out.base ?next))
                                    case next =>
                                      intro A8 c8 wk T' K' hs3
                                      clear r_ib q_ib r_p q_p r_rd q_rd z_ib z_p z_rd
                                      replace T' : St w.heap.size w wk [.blk wi.heap.size #[.int .i64 x.toNat, .int .i64 0, .int .i64 0, .int .i64 nn] 43, .row w.heap.size 43 4 (.slice A8 (j + 1) c8) (j + 1) (cat (dss ++ [[Value.int .i64 x.toNat, Value.int .i64 0, Value.int .i64 0, Value.int .i64 nn]])), .row w.heap.size 44 1 (.slice Ak k ck) k (cat css), .blk W3.heap.size #[.slice Ak k ck] 24, .blk W0.heap.size #[.slice (some ⟨bb, oo, none⟩) l.length c, .int .i64 s5, .int .i64 e5] 83, .blk w.heap.size #[.slice none 0 0] 24] := T'
                                      replace K' : Keeps wm [.blk wi.heap.size #[.int .i64 x.toNat, .int .i64 0, .int .i64 0, .int .i64 nn] 43, .row w.heap.size 43 4 (.slice Aj j cj) j (cat dss), .row w.heap.size 44 1 (.slice Ak k ck) k (cat css), .blk W3.heap.size #[.slice Ak k ck] 24, .blk W0.heap.size #[.slice (some ⟨bb, oo, none⟩) l.length c, .int .i64 s5, .int .i64 e5] 83, .blk w.heap.size #[.slice none 0 0] 24] wk [.blk wi.heap.size #[.int .i64 x.toNat, .int .i64 0, .int .i64 0, .int .i64 nn] 43, .row w.heap.size 43 4 (.slice A8 (j + 1) c8) (j + 1) (cat (dss ++ [[Value.int .i64 x.toNat, Value.int .i64 0, Value.int .i64 0, Value.int .i64 nn]])), .row w.heap.size 44 1 (.slice Ak k ck) k (cat css), .blk W3.heap.size #[.slice Ak k ck] 24, .blk W0.heap.size #[.slice (some ⟨bb, oo, none⟩) l.length c, .int .i64 s5, .int .i64 e5] 83, .blk w.heap.size #[.slice none 0 0] 24] := K'
                                      replace HT := Lib.hid T'
                                      replace HH := Lib.hid (HH.out.move K')
                                      replace HB := Lib.hid (HB.out.move (by decide) K')
                                      clear T' K'
                                      replace hz5 : W6.heap.size ≤ wk.heap.size := by omega
                                      go_wp2_with fail
                                      obtain ⟨T', K'⟩ := HT.out.drop 0
                                      replace T' : St w.heap.size w wk [.row w.heap.size 43 4 (.slice A8 (j + 1) c8) (j + 1) (cat (dss ++ [[Value.int .i64 x.toNat, Value.int .i64 0, Value.int .i64 0, Value.int .i64 nn]])), .row w.heap.size 44 1 (.slice Ak k ck) k (cat css), .blk W3.heap.size #[.slice Ak k ck] 24, .blk W0.heap.size #[.slice (some ⟨bb, oo, none⟩) l.length c, .int .i64 s5, .int .i64 e5] 83, .blk w.heap.size #[.slice none 0 0] 24] := T'
                                      replace K' : Keeps wk [.blk wi.heap.size #[.int .i64 x.toNat, .int .i64 0, .int .i64 0, .int .i64 nn] 43, .row w.heap.size 43 4 (.slice A8 (j + 1) c8) (j + 1) (cat (dss ++ [[Value.int .i64 x.toNat, Value.int .i64 0, Value.int .i64 0, Value.int .i64 nn]])), .row w.heap.size 44 1 (.slice Ak k ck) k (cat css), .blk W3.heap.size #[.slice Ak k ck] 24, .blk W0.heap.size #[.slice (some ⟨bb, oo, none⟩) l.length c, .int .i64 s5, .int .i64 e5] 83, .blk w.heap.size #[.slice none 0 0] 24] wk [.row w.heap.size 43 4 (.slice A8 (j + 1) c8) (j + 1) (cat (dss ++ [[Value.int .i64 x.toNat, Value.int .i64 0, Value.int .i64 0, Value.int .i64 nn]])), .row w.heap.size 44 1 (.slice Ak k ck) k (cat css), .blk W3.heap.size #[.slice Ak k ck] 24, .blk W0.heap.size #[.slice (some ⟨bb, oo, none⟩) l.length c, .int .i64 s5, .int .i64 e5] 83, .blk w.heap.size #[.slice none 0 0] 24] := K'
                                      replace HT := Lib.hid T'
                                      replace HH := Lib.hid (HH.out.move K')
                                      replace HB := Lib.hid (HB.out.move (by decide) K')
                                      clear T' K'
                                      go_roundw
                                      case rel => exact ⟨j + 1, s5, .slice A8 (j + 1) c8, e5, dss ++ [[Value.int .i64 x.toNat, Value.int .i64 0, Value.int .i64 0, Value.int .i64 nn]], rfl, by go_num, by omega, by omega, hz5, HT.out, HB.out, HH.out, .inr ⟨by first | decide | assumption, HC.out⟩⟩
                                      case measure => simp [intOf]; omega
                              · have htl := bt1
                                go_wp2_with fail
                                by_cases hcl : t1 < l.length
                                · obtain ⟨c9, hc⟩ : ∃ c9, l[t1]? = some c9 := ⟨_, List.getElem?_eq_getElem hcl⟩
                                  have hc8 := c9.toNat_lt
                                  have hdc := drop_at hc
                                  obtain ⟨t2, ht2⟩ : ∃ s, s = t1 + 1 := ⟨_, rfl⟩
                                  refine (one_ok _ t1 (Fr 0 [.blk wi.heap.size #[.int .i64 x.toNat, .int .i64 0, .int .i64 0, .int .i64 0] 43, .row w.heap.size 43 4 (.slice Aj j cj) j (cat dss), .row w.heap.size 44 1 (.slice Ak k ck) k (cat css), .blk W3.heap.size #[.slice Ak k ck] 24, .blk W0.heap.size #[.slice (some ⟨bb, oo, none⟩) l.length c, .int .i64 t1, .int .i64 0] 83, .blk w.heap.size #[.slice none 0 0] 24]) (not_fr (i := 4) rfl) _ _ c l c9 _ (HT.out.heap 4 rfl) HB.out hc (by omega)).mono ?_
                                  rintro en wn ⟨rfl, ho, hd⟩
                                  rw [← ht2] at hd
                                  have Ht2 := Lib.hid ht2
                                  have bt2 : t2 ≤ l.length := by have := (List.getElem?_eq_some_iff.1 hc).1; omega
                                  clear ht2
                                  clear r_ib q_ib r_rd q_rd z_ib z_rd
                                  obtain ⟨T', K'⟩ := HT.out.only 4 rfl ho hd
                                  replace T' : St w.heap.size w wn [.blk wi.heap.size #[.int .i64 x.toNat, .int .i64 0, .int .i64 0, .int .i64 0] 43, .row w.heap.size 43 4 (.slice Aj j cj) j (cat dss), .row w.heap.size 44 1 (.slice Ak k ck) k (cat css), .blk W3.heap.size #[.slice Ak k ck] 24, .blk W0.heap.size #[.slice (some ⟨bb, oo, none⟩) l.length c, .int .i64 t2, .int .i64 0] 83, .blk w.heap.size #[.slice none 0 0] 24] := T'
                                  replace K' : Keeps wo [.blk wi.heap.size #[.int .i64 x.toNat, .int .i64 0, .int .i64 0, .int .i64 0] 43, .row w.heap.size 43 4 (.slice Aj j cj) j (cat dss), .row w.heap.size 44 1 (.slice Ak k ck) k (cat css), .blk W3.heap.size #[.slice Ak k ck] 24, .blk W0.heap.size #[.slice (some ⟨bb, oo, none⟩) l.length c, .int .i64 t1, .int .i64 0] 83, .blk w.heap.size #[.slice none 0 0] 24] wn [.blk wi.heap.size #[.int .i64 x.toNat, .int .i64 0, .int .i64 0, .int .i64 0] 43, .row w.heap.size 43 4 (.slice Aj j cj) j (cat dss), .row w.heap.size 44 1 (.slice Ak k ck) k (cat css), .blk W3.heap.size #[.slice Ak k ck] 24, .blk W0.heap.size #[.slice (some ⟨bb, oo, none⟩) l.length c, .int .i64 t2, .int .i64 0] 83, .blk w.heap.size #[.slice none 0 0] 24] := K'
                                  replace HT := Lib.hid T'
                                  replace HH := Lib.hid (HH.out.move K')
                                  replace HB := Lib.hid (HB.out.move (by decide) K')
                                  replace HD := Lib.hid (HD.out.move K')
                                  clear T' K'
                                  replace hz5 : W6.heap.size ≤ wn.heap.size := Nat.le_trans hz5 ho.size
                                  clear ho hd
                                  rw [← Ht2.out] at hdc
                                  have Hdc := Lib.hid hdc
                                  clear hdc hc
                                  obtain ⟨r_ib, q_ib, -, -, r_rd, q_rd, -⟩ := HT.out.rules
                                  have z_ib : wi.heap.size < wn.heap.size := (HT.out.in_ 0 rfl rfl).2
                                  have z_rd : W0.heap.size < wn.heap.size := (HT.out.in_ 4 rfl rfl).2
                                  by_cases h63 : (63 : Int) < (c9.toNat : Int)
                                  · have hI : instrF (I8 (l.drop sj)) = .error 4 := by rw [Hdx.out]; exact instr_regs (by have := Hop.out; omega) (by rw [Hdc.out]; exact regs_far Hxa.out _ h63)
                                    have HI := Lib.hid hI
                                    clear hI
                                    go_upto_region 25 with fail
                                    clear r_ib q_ib r_rd q_rd z_ib z_rd
                                    obtain ⟨T', K'⟩ := HT.out.put 4 2 (.int .i64 4) rfl
                                    replace T' : St w.heap.size w ((wn.setCell ⟨W0.heap.size, 2, none⟩ (.int .i64 4))) [.blk wi.heap.size #[.int .i64 x.toNat, .int .i64 0, .int .i64 0, .int .i64 0] 43, .row w.heap.size 43 4 (.slice Aj j cj) j (cat dss), .row w.heap.size 44 1 (.slice Ak k ck) k (cat css), .blk W3.heap.size #[.slice Ak k ck] 24, .blk W0.heap.size #[.slice (some ⟨bb, oo, none⟩) l.length c, .int .i64 t2, .int .i64 4] 83, .blk w.heap.size #[.slice none 0 0] 24] := T'
                                    replace K' : Keeps wn [.blk wi.heap.size #[.int .i64 x.toNat, .int .i64 0, .int .i64 0, .int .i64 0] 43, .row w.heap.size 43 4 (.slice Aj j cj) j (cat dss), .row w.heap.size 44 1 (.slice Ak k ck) k (cat css), .blk W3.heap.size #[.slice Ak k ck] 24, .blk W0.heap.size #[.slice (some ⟨bb, oo, none⟩) l.length c, .int .i64 t2, .int .i64 0] 83, .blk w.heap.size #[.slice none 0 0] 24] ((wn.setCell ⟨W0.heap.size, 2, none⟩ (.int .i64 4))) [.blk wi.heap.size #[.int .i64 x.toNat, .int .i64 0, .int .i64 0, .int .i64 0] 43, .row w.heap.size 43 4 (.slice Aj j cj) j (cat dss), .row w.heap.size 44 1 (.slice Ak k ck) k (cat css), .blk W3.heap.size #[.slice Ak k ck] 24, .blk W0.heap.size #[.slice (some ⟨bb, oo, none⟩) l.length c, .int .i64 t2, .int .i64 4] 83, .blk w.heap.size #[.slice none 0 0] 24] := K'
                                    replace HT := Lib.hid T'
                                    replace HH := Lib.hid (HH.out.move K')
                                    replace HB := Lib.hid (HB.out.move (by decide) K')
                                    replace HD := Lib.hid (HD.out.move K')
                                    clear T' K'
                                    replace hz5 : W6.heap.size ≤ ((wn.setCell ⟨W0.heap.size, 2, none⟩ (.int .i64 4))).heap.size := by simpa using hz5
                                    generalize wn.setCell ⟨W0.heap.size, 2, none⟩ (.int .i64 4) = wd at *
                                    obtain ⟨r_ib, q_ib, -, -, r_rd, q_rd, -⟩ := HT.out.rules
                                    have z_ib : wi.heap.size < wd.heap.size := (HT.out.in_ 0 rfl rfl).2
                                    have z_rd : W0.heap.size < wd.heap.size := (HT.out.in_ 4 rfl rfl).2
                                    go_upto_region 27 with fail
                                    clear r_ib q_ib r_rd q_rd z_ib z_rd
                                    obtain ⟨T', K'⟩ := HT.out.put 0 1 (.int .i64 ((c9.toNat : Int) % 8)) rfl
                                    replace T' : St w.heap.size w ((wd.setCell ⟨wi.heap.size, 1, none⟩ (.int .i64 ((c9.toNat : Int) % 8)))) [.blk wi.heap.size #[.int .i64 x.toNat, .int .i64 ((c9.toNat : Int) % 8), .int .i64 0, .int .i64 0] 43, .row w.heap.size 43 4 (.slice Aj j cj) j (cat dss), .row w.heap.size 44 1 (.slice Ak k ck) k (cat css), .blk W3.heap.size #[.slice Ak k ck] 24, .blk W0.heap.size #[.slice (some ⟨bb, oo, none⟩) l.length c, .int .i64 t2, .int .i64 4] 83, .blk w.heap.size #[.slice none 0 0] 24] := T'
                                    replace K' : Keeps wd [.blk wi.heap.size #[.int .i64 x.toNat, .int .i64 0, .int .i64 0, .int .i64 0] 43, .row w.heap.size 43 4 (.slice Aj j cj) j (cat dss), .row w.heap.size 44 1 (.slice Ak k ck) k (cat css), .blk W3.heap.size #[.slice Ak k ck] 24, .blk W0.heap.size #[.slice (some ⟨bb, oo, none⟩) l.length c, .int .i64 t2, .int .i64 4] 83, .blk w.heap.size #[.slice none 0 0] 24] ((wd.setCell ⟨wi.heap.size, 1, none⟩ (.int .i64 ((c9.toNat : Int) % 8)))) [.blk wi.heap.size #[.int .i64 x.toNat, .int .i64 ((c9.toNat : Int) % 8), .int .i64 0, .int .i64 0] 43, .row w.heap.size 43 4 (.slice Aj j cj) j (cat dss), .row w.heap.size 44 1 (.slice Ak k ck) k (cat css), .blk W3.heap.size #[.slice Ak k ck] 24, .blk W0.heap.size #[.slice (some ⟨bb, oo, none⟩) l.length c, .int .i64 t2, .int .i64 4] 83, .blk w.heap.size #[.slice none 0 0] 24] := K'
                                    replace HT := Lib.hid T'
                                    replace HH := Lib.hid (HH.out.move K')
                                    replace HB := Lib.hid (HB.out.move (by decide) K')
                                    replace HD := Lib.hid (HD.out.move K')
                                    clear T' K'
                                    replace hz5 : W6.heap.size ≤ ((wd.setCell ⟨wi.heap.size, 1, none⟩ (.int .i64 ((c9.toNat : Int) % 8)))).heap.size := by simpa using hz5
                                    generalize wd.setCell ⟨wi.heap.size, 1, none⟩ (.int .i64 ((c9.toNat : Int) % 8)) = wA at *
                                    obtain ⟨T', K'⟩ := HT.out.put 0 2 (.int .i64 ((c9.toNat : Int) / 8)) rfl
                                    replace T' : St w.heap.size w ((wA.setCell ⟨wi.heap.size, 2, none⟩ (.int .i64 ((c9.toNat : Int) / 8)))) [.blk wi.heap.size #[.int .i64 x.toNat, .int .i64 ((c9.toNat : Int) % 8), .int .i64 ((c9.toNat : Int) / 8), .int .i64 0] 43, .row w.heap.size 43 4 (.slice Aj j cj) j (cat dss), .row w.heap.size 44 1 (.slice Ak k ck) k (cat css), .blk W3.heap.size #[.slice Ak k ck] 24, .blk W0.heap.size #[.slice (some ⟨bb, oo, none⟩) l.length c, .int .i64 t2, .int .i64 4] 83, .blk w.heap.size #[.slice none 0 0] 24] := T'
                                    replace K' : Keeps wA [.blk wi.heap.size #[.int .i64 x.toNat, .int .i64 ((c9.toNat : Int) % 8), .int .i64 0, .int .i64 0] 43, .row w.heap.size 43 4 (.slice Aj j cj) j (cat dss), .row w.heap.size 44 1 (.slice Ak k ck) k (cat css), .blk W3.heap.size #[.slice Ak k ck] 24, .blk W0.heap.size #[.slice (some ⟨bb, oo, none⟩) l.length c, .int .i64 t2, .int .i64 4] 83, .blk w.heap.size #[.slice none 0 0] 24] ((wA.setCell ⟨wi.heap.size, 2, none⟩ (.int .i64 ((c9.toNat : Int) / 8)))) [.blk wi.heap.size #[.int .i64 x.toNat, .int .i64 ((c9.toNat : Int) % 8), .int .i64 ((c9.toNat : Int) / 8), .int .i64 0] 43, .row w.heap.size 43 4 (.slice Aj j cj) j (cat dss), .row w.heap.size 44 1 (.slice Ak k ck) k (cat css), .blk W3.heap.size #[.slice Ak k ck] 24, .blk W0.heap.size #[.slice (some ⟨bb, oo, none⟩) l.length c, .int .i64 t2, .int .i64 4] 83, .blk w.heap.size #[.slice none 0 0] 24] := K'
                                    replace HT := Lib.hid T'
                                    replace HH := Lib.hid (HH.out.move K')
                                    replace HB := Lib.hid (HB.out.move (by decide) K')
                                    replace HD := Lib.hid (HD.out.move K')
                                    clear T' K'
                                    replace hz5 : W6.heap.size ≤ ((wA.setCell ⟨wi.heap.size, 2, none⟩ (.int .i64 ((c9.toNat : Int) / 8)))).heap.size := by simpa using hz5
                                    generalize wA.setCell ⟨wi.heap.size, 2, none⟩ (.int .i64 ((c9.toNat : Int) / 8)) = wB at *
                                    have hC1 : codeD M (I8 (l.drop t3)) = .error 4 := by rw [HC.out, show M - j = (M - j - 1) + 1 by omega, codeD_err (HI.out)]; rfl
                                    replace HC := Lib.hid hC1
                                    clear hC1 HD
                                    obtain ⟨r_ib, q_ib, r_p, q_p, r_rd, q_rd, -⟩ := HT.out.rules
                                    have z_ib : wi.heap.size < wB.heap.size := (HT.out.in_ 0 rfl rfl).2
                                    have z_p : W3.heap.size < wB.heap.size := (HT.out.in_ 3 rfl rfl).2
                                    have z_rd : W0.heap.size < wB.heap.size := (HT.out.in_ 4 rfl rfl).2
                                    go_wp2_with (at_builtin; go_loud (refine wpList_append_css rfl (.tmp 121) (.tmp 123) _ rfl (e := 43) (size := 4) (bytes := 32) Tryd.underlying44 infoN rfl (by omega) HT.out 1 rfl rfl [Value.int .i64 x.toNat, Value.int .i64 ((c9.toNat : Int) % 8), Value.int .i64 ((c9.toNat : Int) / 8), Value.int .i64 0] 43 rfl rfl (by simp [Value.oneCell']) (by unfold maxLen; omega) (by omega) HT.out.base ?next))
                                    case next =>
                                      intro A8 c8 wk T' K' hs3
                                      clear r_ib q_ib r_p q_p r_rd q_rd z_ib z_p z_rd
                                      replace T' : St w.heap.size w wk [.blk wi.heap.size #[.int .i64 x.toNat, .int .i64 ((c9.toNat : Int) % 8), .int .i64 ((c9.toNat : Int) / 8), .int .i64 0] 43, .row w.heap.size 43 4 (.slice A8 (j + 1) c8) (j + 1) (cat (dss ++ [[Value.int .i64 x.toNat, Value.int .i64 ((c9.toNat : Int) % 8), Value.int .i64 ((c9.toNat : Int) / 8), Value.int .i64 0]])), .row w.heap.size 44 1 (.slice Ak k ck) k (cat css), .blk W3.heap.size #[.slice Ak k ck] 24, .blk W0.heap.size #[.slice (some ⟨bb, oo, none⟩) l.length c, .int .i64 t2, .int .i64 4] 83, .blk w.heap.size #[.slice none 0 0] 24] := T'
                                      replace K' : Keeps wB [.blk wi.heap.size #[.int .i64 x.toNat, .int .i64 ((c9.toNat : Int) % 8), .int .i64 ((c9.toNat : Int) / 8), .int .i64 0] 43, .row w.heap.size 43 4 (.slice Aj j cj) j (cat dss), .row w.heap.size 44 1 (.slice Ak k ck) k (cat css), .blk W3.heap.size #[.slice Ak k ck] 24, .blk W0.heap.size #[.slice (some ⟨bb, oo, none⟩) l.length c, .int .i64 t2, .int .i64 4] 83, .blk w.heap.size #[.slice none 0 0] 24] wk [.blk wi.heap.size #[.int .i64 x.toNat, .int .i64 ((c9.toNat : Int) % 8), .int .i64 ((c9.toNat : Int) / 8), .int .i64 0] 43, .row w.heap.size 43 4 (.slice A8 (j + 1) c8) (j + 1) (cat (dss ++ [[Value.int .i64 x.toNat, Value.int .i64 ((c9.toNat : Int) % 8), Value.int .i64 ((c9.toNat : Int) / 8), Value.int .i64 0]])), .row w.heap.size 44 1 (.slice Ak k ck) k (cat css), .blk W3.heap.size #[.slice Ak k ck] 24, .blk W0.heap.size #[.slice (some ⟨bb, oo, none⟩) l.length c, .int .i64 t2, .int .i64 4] 83, .blk w.heap.size #[.slice none 0 0] 24] := K'
                                      replace HT := Lib.hid T'
                                      replace HH := Lib.hid (HH.out.move K')
                                      replace HB := Lib.hid (HB.out.move (by decide) K')
                                      clear T' K'
                                      replace hz5 : W6.heap.size ≤ wk.heap.size := by omega
                                      go_wp2_with fail
                                      obtain ⟨T', K'⟩ := HT.out.drop 0
                                      replace T' : St w.heap.size w wk [.row w.heap.size 43 4 (.slice A8 (j + 1) c8) (j + 1) (cat (dss ++ [[Value.int .i64 x.toNat, Value.int .i64 ((c9.toNat : Int) % 8), Value.int .i64 ((c9.toNat : Int) / 8), Value.int .i64 0]])), .row w.heap.size 44 1 (.slice Ak k ck) k (cat css), .blk W3.heap.size #[.slice Ak k ck] 24, .blk W0.heap.size #[.slice (some ⟨bb, oo, none⟩) l.length c, .int .i64 t2, .int .i64 4] 83, .blk w.heap.size #[.slice none 0 0] 24] := T'
                                      replace K' : Keeps wk [.blk wi.heap.size #[.int .i64 x.toNat, .int .i64 ((c9.toNat : Int) % 8), .int .i64 ((c9.toNat : Int) / 8), .int .i64 0] 43, .row w.heap.size 43 4 (.slice A8 (j + 1) c8) (j + 1) (cat (dss ++ [[Value.int .i64 x.toNat, Value.int .i64 ((c9.toNat : Int) % 8), Value.int .i64 ((c9.toNat : Int) / 8), Value.int .i64 0]])), .row w.heap.size 44 1 (.slice Ak k ck) k (cat css), .blk W3.heap.size #[.slice Ak k ck] 24, .blk W0.heap.size #[.slice (some ⟨bb, oo, none⟩) l.length c, .int .i64 t2, .int .i64 4] 83, .blk w.heap.size #[.slice none 0 0] 24] wk [.row w.heap.size 43 4 (.slice A8 (j + 1) c8) (j + 1) (cat (dss ++ [[Value.int .i64 x.toNat, Value.int .i64 ((c9.toNat : Int) % 8), Value.int .i64 ((c9.toNat : Int) / 8), Value.int .i64 0]])), .row w.heap.size 44 1 (.slice Ak k ck) k (cat css), .blk W3.heap.size #[.slice Ak k ck] 24, .blk W0.heap.size #[.slice (some ⟨bb, oo, none⟩) l.length c, .int .i64 t2, .int .i64 4] 83, .blk w.heap.size #[.slice none 0 0] 24] := K'
                                      replace HT := Lib.hid T'
                                      replace HH := Lib.hid (HH.out.move K')
                                      replace HB := Lib.hid (HB.out.move (by decide) K')
                                      clear T' K'
                                      go_roundw
                                      case rel => exact ⟨j + 1, t2, .slice A8 (j + 1) c8, 4, dss ++ [[Value.int .i64 x.toNat, Value.int .i64 ((c9.toNat : Int) % 8), Value.int .i64 ((c9.toNat : Int) / 8), Value.int .i64 0]], rfl, by go_num, by omega, by omega, hz5, HT.out, HB.out, HH.out, .inr ⟨by first | decide | assumption, HC.out⟩⟩
                                      case measure => simp [intOf]; omega
                                  · have HRG : Hid (regsF (x.toNat : Int) (I8 (l.drop t1)) = .ok (((c9.toNat : Int) % 8, (c9.toNat : Int) / 8), I8 (l.drop t2))) := Lib.hid (by rw [Hdc.out]; exact regs_ok Hxa.out _ h63)
                                    go_upto_region 27 with fail
                                    clear r_ib q_ib r_rd q_rd z_ib z_rd
                                    obtain ⟨T', K'⟩ := HT.out.put 0 1 (.int .i64 ((c9.toNat : Int) % 8)) rfl
                                    replace T' : St w.heap.size w ((wn.setCell ⟨wi.heap.size, 1, none⟩ (.int .i64 ((c9.toNat : Int) % 8)))) [.blk wi.heap.size #[.int .i64 x.toNat, .int .i64 ((c9.toNat : Int) % 8), .int .i64 0, .int .i64 0] 43, .row w.heap.size 43 4 (.slice Aj j cj) j (cat dss), .row w.heap.size 44 1 (.slice Ak k ck) k (cat css), .blk W3.heap.size #[.slice Ak k ck] 24, .blk W0.heap.size #[.slice (some ⟨bb, oo, none⟩) l.length c, .int .i64 t2, .int .i64 0] 83, .blk w.heap.size #[.slice none 0 0] 24] := T'
                                    replace K' : Keeps wn [.blk wi.heap.size #[.int .i64 x.toNat, .int .i64 0, .int .i64 0, .int .i64 0] 43, .row w.heap.size 43 4 (.slice Aj j cj) j (cat dss), .row w.heap.size 44 1 (.slice Ak k ck) k (cat css), .blk W3.heap.size #[.slice Ak k ck] 24, .blk W0.heap.size #[.slice (some ⟨bb, oo, none⟩) l.length c, .int .i64 t2, .int .i64 0] 83, .blk w.heap.size #[.slice none 0 0] 24] ((wn.setCell ⟨wi.heap.size, 1, none⟩ (.int .i64 ((c9.toNat : Int) % 8)))) [.blk wi.heap.size #[.int .i64 x.toNat, .int .i64 ((c9.toNat : Int) % 8), .int .i64 0, .int .i64 0] 43, .row w.heap.size 43 4 (.slice Aj j cj) j (cat dss), .row w.heap.size 44 1 (.slice Ak k ck) k (cat css), .blk W3.heap.size #[.slice Ak k ck] 24, .blk W0.heap.size #[.slice (some ⟨bb, oo, none⟩) l.length c, .int .i64 t2, .int .i64 0] 83, .blk w.heap.size #[.slice none 0 0] 24] := K'
                                    replace HT := Lib.hid T'
                                    replace HH := Lib.hid (HH.out.move K')
                                    replace HB := Lib.hid (HB.out.move (by decide) K')
                                    replace HD := Lib.hid (HD.out.move K')
                                    clear T' K'
                                    replace hz5 : W6.heap.size ≤ ((wn.setCell ⟨wi.heap.size, 1, none⟩ (.int .i64 ((c9.toNat : Int) % 8)))).heap.size := by simpa using hz5
                                    generalize wn.setCell ⟨wi.heap.size, 1, none⟩ (.int .i64 ((c9.toNat : Int) % 8)) = wA at *
                                    obtain ⟨T', K'⟩ := HT.out.put 0 2 (.int .i64 ((c9.toNat : Int) / 8)) rfl
                                    replace T' : St w.heap.size w ((wA.setCell ⟨wi.heap.size, 2, none⟩ (.int .i64 ((c9.toNat : Int) / 8)))) [.blk wi.heap.size #[.int .i64 x.toNat, .int .i64 ((c9.toNat : Int) % 8), .int .i64 ((c9.toNat : Int) / 8), .int .i64 0] 43, .row w.heap.size 43 4 (.slice Aj j cj) j (cat dss), .row w.heap.size 44 1 (.slice Ak k ck) k (cat css), .blk W3.heap.size #[.slice Ak k ck] 24, .blk W0.heap.size #[.slice (some ⟨bb, oo, none⟩) l.length c, .int .i64 t2, .int .i64 0] 83, .blk w.heap.size #[.slice none 0 0] 24] := T'
                                    replace K' : Keeps wA [.blk wi.heap.size #[.int .i64 x.toNat, .int .i64 ((c9.toNat : Int) % 8), .int .i64 0, .int .i64 0] 43, .row w.heap.size 43 4 (.slice Aj j cj) j (cat dss), .row w.heap.size 44 1 (.slice Ak k ck) k (cat css), .blk W3.heap.size #[.slice Ak k ck] 24, .blk W0.heap.size #[.slice (some ⟨bb, oo, none⟩) l.length c, .int .i64 t2, .int .i64 0] 83, .blk w.heap.size #[.slice none 0 0] 24] ((wA.setCell ⟨wi.heap.size, 2, none⟩ (.int .i64 ((c9.toNat : Int) / 8)))) [.blk wi.heap.size #[.int .i64 x.toNat, .int .i64 ((c9.toNat : Int) % 8), .int .i64 ((c9.toNat : Int) / 8), .int .i64 0] 43, .row w.heap.size 43 4 (.slice Aj j cj) j (cat dss), .row w.heap.size 44 1 (.slice Ak k ck) k (cat css), .blk W3.heap.size #[.slice Ak k ck] 24, .blk W0.heap.size #[.slice (some ⟨bb, oo, none⟩) l.length c, .int .i64 t2, .int .i64 0] 83, .blk w.heap.size #[.slice none 0 0] 24] := K'
                                    replace HT := Lib.hid T'
                                    replace HH := Lib.hid (HH.out.move K')
                                    replace HB := Lib.hid (HB.out.move (by decide) K')
                                    replace HD := Lib.hid (HD.out.move K')
                                    clear T' K'
                                    replace hz5 : W6.heap.size ≤ ((wA.setCell ⟨wi.heap.size, 2, none⟩ (.int .i64 ((c9.toNat : Int) / 8)))).heap.size := by simpa using hz5
                                    generalize wA.setCell ⟨wi.heap.size, 2, none⟩ (.int .i64 ((c9.toNat : Int) / 8)) = wB at *
                                    obtain ⟨r_ib, q_ib, -, -, r_rd, q_rd, -⟩ := HT.out.rules
                                    have z_ib : wi.heap.size < wB.heap.size := (HT.out.in_ 0 rfl rfl).2
                                    have z_rd : W0.heap.size < wB.heap.size := (HT.out.in_ 4 rfl rfl).2
                                    go_wp2_with fail
                                    refine (hasN_is _ xb Hxb.out _).mono ?_
                                    rintro e w' ⟨rfl, rfl⟩
                                    cases xb
                                    · have hI : instrF (I8 (l.drop sj)) = .ok (⟨x.toNat, ((c9.toNat : Int) % 8), ((c9.toNat : Int) / 8), 0⟩, I8 (l.drop t2)) := by rw [Hdx.out]; exact instr_all (by have := Hop.out; omega) HRG.out (next_no Hxb.out _)
                                      have HI := Lib.hid hI
                                      clear hI
                                      clear r_ib q_ib r_rd q_rd z_ib z_rd
                                      have hC1 : codeD M (I8 (l.drop t3)) = pre (is ++ [⟨x.toNat, ((c9.toNat : Int) % 8), ((c9.toNat : Int) / 8), 0⟩]) (codeD (M - (j + 1)) (I8 (l.drop t2))) := by rw [HC.out, show M - j = (M - (j + 1)) + 1 by omega, codeD_ok (HI.out), pre_pre]
                                      replace HC := Lib.hid hC1
                                      clear hC1
                                      obtain ⟨r_ib, q_ib, r_p, q_p, r_rd, q_rd, -⟩ := HT.out.rules
                                      have z_ib : wi.heap.size < wB.heap.size := (HT.out.in_ 0 rfl rfl).2
                                      have z_p : W3.heap.size < wB.heap.size := (HT.out.in_ 3 rfl rfl).2
                                      have z_rd : W0.heap.size < wB.heap.size := (HT.out.in_ 4 rfl rfl).2
                                      go_wp2_with (at_builtin; go_loud (refine wpList_append_css rfl (.tmp 121) (.tmp 123) _ rfl (e := 43) (size := 4) (bytes := 32) Tryd.underlying44 infoN rfl (by omega) HT.out 1 rfl rfl [Value.int .i64 x.toNat, Value.int .i64 ((c9.toNat : Int) % 8), Value.int .i64 ((c9.toNat : Int) / 8), Value.int .i64 0] 43 rfl rfl (by simp [Value.oneCell']) (by unfold maxLen; omega) (by omega) HT.out.base ?next))
                                      case next =>
                                        intro A8 c8 wk T' K' hs3
                                        clear r_ib q_ib r_p q_p r_rd q_rd z_ib z_p z_rd
                                        replace T' : St w.heap.size w wk [.blk wi.heap.size #[.int .i64 x.toNat, .int .i64 ((c9.toNat : Int) % 8), .int .i64 ((c9.toNat : Int) / 8), .int .i64 0] 43, .row w.heap.size 43 4 (.slice A8 (j + 1) c8) (j + 1) (cat (dss ++ [[Value.int .i64 x.toNat, Value.int .i64 ((c9.toNat : Int) % 8), Value.int .i64 ((c9.toNat : Int) / 8), Value.int .i64 0]])), .row w.heap.size 44 1 (.slice Ak k ck) k (cat css), .blk W3.heap.size #[.slice Ak k ck] 24, .blk W0.heap.size #[.slice (some ⟨bb, oo, none⟩) l.length c, .int .i64 t2, .int .i64 0] 83, .blk w.heap.size #[.slice none 0 0] 24] := T'
                                        replace K' : Keeps wB [.blk wi.heap.size #[.int .i64 x.toNat, .int .i64 ((c9.toNat : Int) % 8), .int .i64 ((c9.toNat : Int) / 8), .int .i64 0] 43, .row w.heap.size 43 4 (.slice Aj j cj) j (cat dss), .row w.heap.size 44 1 (.slice Ak k ck) k (cat css), .blk W3.heap.size #[.slice Ak k ck] 24, .blk W0.heap.size #[.slice (some ⟨bb, oo, none⟩) l.length c, .int .i64 t2, .int .i64 0] 83, .blk w.heap.size #[.slice none 0 0] 24] wk [.blk wi.heap.size #[.int .i64 x.toNat, .int .i64 ((c9.toNat : Int) % 8), .int .i64 ((c9.toNat : Int) / 8), .int .i64 0] 43, .row w.heap.size 43 4 (.slice A8 (j + 1) c8) (j + 1) (cat (dss ++ [[Value.int .i64 x.toNat, Value.int .i64 ((c9.toNat : Int) % 8), Value.int .i64 ((c9.toNat : Int) / 8), Value.int .i64 0]])), .row w.heap.size 44 1 (.slice Ak k ck) k (cat css), .blk W3.heap.size #[.slice Ak k ck] 24, .blk W0.heap.size #[.slice (some ⟨bb, oo, none⟩) l.length c, .int .i64 t2, .int .i64 0] 83, .blk w.heap.size #[.slice none 0 0] 24] := K'
                                        replace HT := Lib.hid T'
                                        replace HH := Lib.hid (HH.out.move K')
                                        replace HB := Lib.hid (HB.out.move (by decide) K')
                                        replace HD := Lib.hid (HD.out.move K')
                                        clear T' K'
                                        replace hz5 : W6.heap.size ≤ wk.heap.size := by omega
                                        go_wp2_with fail
                                        obtain ⟨T', K'⟩ := HT.out.drop 0
                                        replace T' : St w.heap.size w wk [.row w.heap.size 43 4 (.slice A8 (j + 1) c8) (j + 1) (cat (dss ++ [[Value.int .i64 x.toNat, Value.int .i64 ((c9.toNat : Int) % 8), Value.int .i64 ((c9.toNat : Int) / 8), Value.int .i64 0]])), .row w.heap.size 44 1 (.slice Ak k ck) k (cat css), .blk W3.heap.size #[.slice Ak k ck] 24, .blk W0.heap.size #[.slice (some ⟨bb, oo, none⟩) l.length c, .int .i64 t2, .int .i64 0] 83, .blk w.heap.size #[.slice none 0 0] 24] := T'
                                        replace K' : Keeps wk [.blk wi.heap.size #[.int .i64 x.toNat, .int .i64 ((c9.toNat : Int) % 8), .int .i64 ((c9.toNat : Int) / 8), .int .i64 0] 43, .row w.heap.size 43 4 (.slice A8 (j + 1) c8) (j + 1) (cat (dss ++ [[Value.int .i64 x.toNat, Value.int .i64 ((c9.toNat : Int) % 8), Value.int .i64 ((c9.toNat : Int) / 8), Value.int .i64 0]])), .row w.heap.size 44 1 (.slice Ak k ck) k (cat css), .blk W3.heap.size #[.slice Ak k ck] 24, .blk W0.heap.size #[.slice (some ⟨bb, oo, none⟩) l.length c, .int .i64 t2, .int .i64 0] 83, .blk w.heap.size #[.slice none 0 0] 24] wk [.row w.heap.size 43 4 (.slice A8 (j + 1) c8) (j + 1) (cat (dss ++ [[Value.int .i64 x.toNat, Value.int .i64 ((c9.toNat : Int) % 8), Value.int .i64 ((c9.toNat : Int) / 8), Value.int .i64 0]])), .row w.heap.size 44 1 (.slice Ak k ck) k (cat css), .blk W3.heap.size #[.slice Ak k ck] 24, .blk W0.heap.size #[.slice (some ⟨bb, oo, none⟩) l.length c, .int .i64 t2, .int .i64 0] 83, .blk w.heap.size #[.slice none 0 0] 24] := K'
                                        replace HT := Lib.hid T'
                                        replace HH := Lib.hid (HH.out.move K')
                                        replace HB := Lib.hid (HB.out.move (by decide) K')
                                        replace HD := Lib.hid (HD.out.move K')
                                        clear T' K'
                                        have hnew := HD.out.append (Held.single (E := insE) (cs := [Value.int .i64 x.toNat, Value.int .i64 ((c9.toNat : Int) % 8), Value.int .i64 ((c9.toNat : Int) / 8), Value.int .i64 0]) (x := ⟨x.toNat, ((c9.toNat : Int) % 8), ((c9.toNat : Int) / 8), 0⟩) rfl rfl)
                                        go_roundw
                                        case rel => exact ⟨j + 1, t2, .slice A8 (j + 1) c8, 0, dss ++ [[Value.int .i64 x.toNat, Value.int .i64 ((c9.toNat : Int) % 8), Value.int .i64 ((c9.toNat : Int) / 8), Value.int .i64 0]], rfl, by go_num, by omega, by omega, hz5, HT.out, HB.out, HH.out, .inl ⟨rfl, is ++ [⟨x.toNat, ((c9.toNat : Int) % 8), ((c9.toNat : Int) / 8), 0⟩], hnew, by simp [his], HC.out⟩⟩
                                        case measure => simp [intOf]; omega
                                    · go_wp2_with fail
                                      refine (numberS_any _ t2 (Fr 0 [.blk wi.heap.size #[.int .i64 x.toNat, .int .i64 ((c9.toNat : Int) % 8), .int .i64 ((c9.toNat : Int) / 8), .int .i64 0] 43, .row w.heap.size 43 4 (.slice Aj j cj) j (cat dss), .row w.heap.size 44 1 (.slice Ak k ck) k (cat css), .blk W3.heap.size #[.slice Ak k ck] 24, .blk W0.heap.size #[.slice (some ⟨bb, oo, none⟩) l.length c, .int .i64 t2, .int .i64 0] 83, .blk w.heap.size #[.slice none 0 0] 24]) (not_fr (i := 4) rfl) _ _ c l _ (HT.out.heap 4 rfl) HB.out (by omega) h5).mono ?_
                                      rintro en wn ⟨nn, s5, e5, rfl, ho, hd, hs5, hst⟩
                                      clear r_ib q_ib r_rd q_rd z_ib z_rd
                                      obtain ⟨T', K'⟩ := HT.out.only 4 rfl ho hd
                                      replace T' : St w.heap.size w wn [.blk wi.heap.size #[.int .i64 x.toNat, .int .i64 ((c9.toNat : Int) % 8), .int .i64 ((c9.toNat : Int) / 8), .int .i64 0] 43, .row w.heap.size 43 4 (.slice Aj j cj) j (cat dss), .row w.heap.size 44 1 (.slice Ak k ck) k (cat css), .blk W3.heap.size #[.slice Ak k ck] 24, .blk W0.heap.size #[.slice (some ⟨bb, oo, none⟩) l.length c, .int .i64 s5, .int .i64 e5] 83, .blk w.heap.size #[.slice none 0 0] 24] := T'
                                      replace K' : Keeps wB [.blk wi.heap.size #[.int .i64 x.toNat, .int .i64 ((c9.toNat : Int) % 8), .int .i64 ((c9.toNat : Int) / 8), .int .i64 0] 43, .row w.heap.size 43 4 (.slice Aj j cj) j (cat dss), .row w.heap.size 44 1 (.slice Ak k ck) k (cat css), .blk W3.heap.size #[.slice Ak k ck] 24, .blk W0.heap.size #[.slice (some ⟨bb, oo, none⟩) l.length c, .int .i64 t2, .int .i64 0] 83, .blk w.heap.size #[.slice none 0 0] 24] wn [.blk wi.heap.size #[.int .i64 x.toNat, .int .i64 ((c9.toNat : Int) % 8), .int .i64 ((c9.toNat : Int) / 8), .int .i64 0] 43, .row w.heap.size 43 4 (.slice Aj j cj) j (cat dss), .row w.heap.size 44 1 (.slice Ak k ck) k (cat css), .blk W3.heap.size #[.slice Ak k ck] 24, .blk W0.heap.size #[.slice (some ⟨bb, oo, none⟩) l.length c, .int .i64 s5, .int .i64 e5] 83, .blk w.heap.size #[.slice none 0 0] 24] := K'
                                      replace HT := Lib.hid T'
                                      replace HH := Lib.hid (HH.out.move K')
                                      replace HB := Lib.hid (HB.out.move (by decide) K')
                                      replace HD := Lib.hid (HD.out.move K')
                                      clear T' K'
                                      replace hz5 : W6.heap.size ≤ wn.heap.size := Nat.le_trans hz5 ho.size
                                      clear ho hd
                                      obtain ⟨r_ib, q_ib, -, -, r_rd, q_rd, -⟩ := HT.out.rules
                                      have z_ib : wi.heap.size < wn.heap.size := (HT.out.in_ 0 rfl rfl).2
                                      have z_rd : W0.heap.size < wn.heap.size := (HT.out.in_ 4 rfl rfl).2
                                      go_upto_region 29 with fail
                                      clear r_ib q_ib r_rd q_rd z_ib z_rd
                                      obtain ⟨T', K'⟩ := HT.out.put 0 3 (.int .i64 nn) rfl
                                      replace T' : St w.heap.size w ((wn.setCell ⟨wi.heap.size, 3, none⟩ (.int .i64 nn))) [.blk wi.heap.size #[.int .i64 x.toNat, .int .i64 ((c9.toNat : Int) % 8), .int .i64 ((c9.toNat : Int) / 8), .int .i64 nn] 43, .row w.heap.size 43 4 (.slice Aj j cj) j (cat dss), .row w.heap.size 44 1 (.slice Ak k ck) k (cat css), .blk W3.heap.size #[.slice Ak k ck] 24, .blk W0.heap.size #[.slice (some ⟨bb, oo, none⟩) l.length c, .int .i64 s5, .int .i64 e5] 83, .blk w.heap.size #[.slice none 0 0] 24] := T'
                                      replace K' : Keeps wn [.blk wi.heap.size #[.int .i64 x.toNat, .int .i64 ((c9.toNat : Int) % 8), .int .i64 ((c9.toNat : Int) / 8), .int .i64 0] 43, .row w.heap.size 43 4 (.slice Aj j cj) j (cat dss), .row w.heap.size 44 1 (.slice Ak k ck) k (cat css), .blk W3.heap.size #[.slice Ak k ck] 24, .blk W0.heap.size #[.slice (some ⟨bb, oo, none⟩) l.length c, .int .i64 s5, .int .i64 e5] 83, .blk w.heap.size #[.slice none 0 0] 24] ((wn.setCell ⟨wi.heap.size, 3, none⟩ (.int .i64 nn))) [.blk wi.heap.size #[.int .i64 x.toNat, .int .i64 ((c9.toNat : Int) % 8), .int .i64 ((c9.toNat : Int) / 8), .int .i64 nn] 43, .row w.heap.size 43 4 (.slice Aj j cj) j (cat dss), .row w.heap.size 44 1 (.slice Ak k ck) k (cat css), .blk W3.heap.size #[.slice Ak k ck] 24, .blk W0.heap.size #[.slice (some ⟨bb, oo, none⟩) l.length c, .int .i64 s5, .int .i64 e5] 83, .blk w.heap.size #[.slice none 0 0] 24] := K'
                                      replace HT := Lib.hid T'
                                      replace HH := Lib.hid (HH.out.move K')
                                      replace HB := Lib.hid (HB.out.move (by decide) K')
                                      replace HD := Lib.hid (HD.out.move K')
                                      clear T' K'
                                      replace hz5 : W6.heap.size ≤ ((wn.setCell ⟨wi.heap.size, 3, none⟩ (.int .i64 nn))).heap.size := by simpa using hz5
                                      generalize wn.setCell ⟨wi.heap.size, 3, none⟩ (.int .i64 nn) = wm at *
                                      rcases hst with ⟨rfl, mm, hnum, hnn⟩ | ⟨he5, hnum⟩
                                      · have hI : instrF (I8 (l.drop sj)) = .ok (⟨x.toNat, ((c9.toNat : Int) % 8), ((c9.toNat : Int) / 8), nn⟩, I8 (l.drop s5)) := by rw [Hdx.out, hnn]; exact instr_all (by have := Hop.out; omega) HRG.out (next_ok Hxb.out hnum)
                                        have HI := Lib.hid hI
                                        clear hI hnum hnn
                                        have hC1 : codeD M (I8 (l.drop t3)) = pre (is ++ [⟨x.toNat, ((c9.toNat : Int) % 8), ((c9.toNat : Int) / 8), nn⟩]) (codeD (M - (j + 1)) (I8 (l.drop s5))) := by rw [HC.out, show M - j = (M - (j + 1)) + 1 by omega, codeD_ok (HI.out), pre_pre]
                                        replace HC := Lib.hid hC1
                                        clear hC1
                                        obtain ⟨r_ib, q_ib, r_p, q_p, r_rd, q_rd, -⟩ := HT.out.rules
                                        have z_ib : wi.heap.size < wm.heap.size := (HT.out.in_ 0 rfl rfl).2
                                        have z_p : W3.heap.size < wm.heap.size := (HT.out.in_ 3 rfl rfl).2
                                        have z_rd : W0.heap.size < wm.heap.size := (HT.out.in_ 4 rfl rfl).2
                                        go_wp2_with (at_builtin; go_loud (refine wpList_append_css rfl (.tmp 121) (.tmp 123) _ rfl (e := 43) (size := 4) (bytes := 32) Tryd.underlying44 infoN rfl (by omega) HT.out 1 rfl rfl [Value.int .i64 x.toNat, Value.int .i64 ((c9.toNat : Int) % 8), Value.int .i64 ((c9.toNat : Int) / 8), Value.int .i64 nn] 43 rfl rfl (by simp [Value.oneCell']) (by unfold maxLen; omega) (by omega) HT.out.base ?next))
                                        case next =>
                                          intro A8 c8 wk T' K' hs3
                                          clear r_ib q_ib r_p q_p r_rd q_rd z_ib z_p z_rd
                                          replace T' : St w.heap.size w wk [.blk wi.heap.size #[.int .i64 x.toNat, .int .i64 ((c9.toNat : Int) % 8), .int .i64 ((c9.toNat : Int) / 8), .int .i64 nn] 43, .row w.heap.size 43 4 (.slice A8 (j + 1) c8) (j + 1) (cat (dss ++ [[Value.int .i64 x.toNat, Value.int .i64 ((c9.toNat : Int) % 8), Value.int .i64 ((c9.toNat : Int) / 8), Value.int .i64 nn]])), .row w.heap.size 44 1 (.slice Ak k ck) k (cat css), .blk W3.heap.size #[.slice Ak k ck] 24, .blk W0.heap.size #[.slice (some ⟨bb, oo, none⟩) l.length c, .int .i64 s5, .int .i64 0] 83, .blk w.heap.size #[.slice none 0 0] 24] := T'
                                          replace K' : Keeps wm [.blk wi.heap.size #[.int .i64 x.toNat, .int .i64 ((c9.toNat : Int) % 8), .int .i64 ((c9.toNat : Int) / 8), .int .i64 nn] 43, .row w.heap.size 43 4 (.slice Aj j cj) j (cat dss), .row w.heap.size 44 1 (.slice Ak k ck) k (cat css), .blk W3.heap.size #[.slice Ak k ck] 24, .blk W0.heap.size #[.slice (some ⟨bb, oo, none⟩) l.length c, .int .i64 s5, .int .i64 0] 83, .blk w.heap.size #[.slice none 0 0] 24] wk [.blk wi.heap.size #[.int .i64 x.toNat, .int .i64 ((c9.toNat : Int) % 8), .int .i64 ((c9.toNat : Int) / 8), .int .i64 nn] 43, .row w.heap.size 43 4 (.slice A8 (j + 1) c8) (j + 1) (cat (dss ++ [[Value.int .i64 x.toNat, Value.int .i64 ((c9.toNat : Int) % 8), Value.int .i64 ((c9.toNat : Int) / 8), Value.int .i64 nn]])), .row w.heap.size 44 1 (.slice Ak k ck) k (cat css), .blk W3.heap.size #[.slice Ak k ck] 24, .blk W0.heap.size #[.slice (some ⟨bb, oo, none⟩) l.length c, .int .i64 s5, .int .i64 0] 83, .blk w.heap.size #[.slice none 0 0] 24] := K'
                                          replace HT := Lib.hid T'
                                          replace HH := Lib.hid (HH.out.move K')
                                          replace HB := Lib.hid (HB.out.move (by decide) K')
                                          replace HD := Lib.hid (HD.out.move K')
                                          clear T' K'
                                          replace hz5 : W6.heap.size ≤ wk.heap.size := by omega
                                          go_wp2_with fail
                                          obtain ⟨T', K'⟩ := HT.out.drop 0
                                          replace T' : St w.heap.size w wk [.row w.heap.size 43 4 (.slice A8 (j + 1) c8) (j + 1) (cat (dss ++ [[Value.int .i64 x.toNat, Value.int .i64 ((c9.toNat : Int) % 8), Value.int .i64 ((c9.toNat : Int) / 8), Value.int .i64 nn]])), .row w.heap.size 44 1 (.slice Ak k ck) k (cat css), .blk W3.heap.size #[.slice Ak k ck] 24, .blk W0.heap.size #[.slice (some ⟨bb, oo, none⟩) l.length c, .int .i64 s5, .int .i64 0] 83, .blk w.heap.size #[.slice none 0 0] 24] := T'
                                          replace K' : Keeps wk [.blk wi.heap.size #[.int .i64 x.toNat, .int .i64 ((c9.toNat : Int) % 8), .int .i64 ((c9.toNat : Int) / 8), .int .i64 nn] 43, .row w.heap.size 43 4 (.slice A8 (j + 1) c8) (j + 1) (cat (dss ++ [[Value.int .i64 x.toNat, Value.int .i64 ((c9.toNat : Int) % 8), Value.int .i64 ((c9.toNat : Int) / 8), Value.int .i64 nn]])), .row w.heap.size 44 1 (.slice Ak k ck) k (cat css), .blk W3.heap.size #[.slice Ak k ck] 24, .blk W0.heap.size #[.slice (some ⟨bb, oo, none⟩) l.length c, .int .i64 s5, .int .i64 0] 83, .blk w.heap.size #[.slice none 0 0] 24] wk [.row w.heap.size 43 4 (.slice A8 (j + 1) c8) (j + 1) (cat (dss ++ [[Value.int .i64 x.toNat, Value.int .i64 ((c9.toNat : Int) % 8), Value.int .i64 ((c9.toNat : Int) / 8), Value.int .i64 nn]])), .row w.heap.size 44 1 (.slice Ak k ck) k (cat css), .blk W3.heap.size #[.slice Ak k ck] 24, .blk W0.heap.size #[.slice (some ⟨bb, oo, none⟩) l.length c, .int .i64 s5, .int .i64 0] 83, .blk w.heap.size #[.slice none 0 0] 24] := K'
                                          replace HT := Lib.hid T'
                                          replace HH := Lib.hid (HH.out.move K')
                                          replace HB := Lib.hid (HB.out.move (by decide) K')
                                          replace HD := Lib.hid (HD.out.move K')
                                          clear T' K'
                                          have hnew := HD.out.append (Held.single (E := insE) (cs := [Value.int .i64 x.toNat, Value.int .i64 ((c9.toNat : Int) % 8), Value.int .i64 ((c9.toNat : Int) / 8), Value.int .i64 nn]) (x := ⟨x.toNat, ((c9.toNat : Int) % 8), ((c9.toNat : Int) / 8), nn⟩) rfl rfl)
                                          go_roundw
                                          case rel => exact ⟨j + 1, s5, .slice A8 (j + 1) c8, 0, dss ++ [[Value.int .i64 x.toNat, Value.int .i64 ((c9.toNat : Int) % 8), Value.int .i64 ((c9.toNat : Int) / 8), Value.int .i64 nn]], rfl, by go_num, by omega, by omega, hz5, HT.out, HB.out, HH.out, .inl ⟨rfl, is ++ [⟨x.toNat, ((c9.toNat : Int) % 8), ((c9.toNat : Int) / 8), nn⟩], hnew, by simp [his], HC.out⟩⟩
                                          case measure => simp [intOf]; omega
                                      · have hI : instrF (I8 (l.drop sj)) = .error e5 := by rw [Hdx.out]; exact instr_nerr (by have := Hop.out; omega) HRG.out (next_err Hxb.out hnum)
                                        have HI := Lib.hid hI
                                        clear hI hnum
                                        have he50 : (e5 == 0) = false := by simpa using he5
                                        have hC1 : codeD M (I8 (l.drop t3)) = .error e5 := by rw [HC.out, show M - j = (M - j - 1) + 1 by omega, codeD_err (HI.out)]; rfl
                                        replace HC := Lib.hid hC1
                                        clear hC1 HD
                                        obtain ⟨r_ib, q_ib, r_p, q_p, r_rd, q_rd, -⟩ := HT.out.rules
                                        have z_ib : wi.heap.size < wm.heap.size := (HT.out.in_ 0 rfl rfl).2
                                        have z_p : W3.heap.size < wm.heap.size := (HT.out.in_ 3 rfl rfl).2
                                        have z_rd : W0.heap.size < wm.heap.size := (HT.out.in_ 4 rfl rfl).2
                                        go_wp2_with (at_builtin; go_loud (refine wpList_append_css rfl (.tmp 121) (.tmp 123) _ rfl (e := 43) (size := 4) (bytes := 32) Tryd.underlying44 infoN rfl (by omega) HT.out 1 rfl rfl [Value.int .i64 x.toNat, Value.int .i64 ((c9.toNat : Int) % 8), Value.int .i64 ((c9.toNat : Int) / 8), Value.int .i64 nn] 43 rfl rfl (by simp [Value.oneCell']) (by unfold maxLen; omega) (by omega) HT.out.base ?next))
                                        case next =>
                                          intro A8 c8 wk T' K' hs3
                                          clear r_ib q_ib r_p q_p r_rd q_rd z_ib z_p z_rd
                                          replace T' : St w.heap.size w wk [.blk wi.heap.size #[.int .i64 x.toNat, .int .i64 ((c9.toNat : Int) % 8), .int .i64 ((c9.toNat : Int) / 8), .int .i64 nn] 43, .row w.heap.size 43 4 (.slice A8 (j + 1) c8) (j + 1) (cat (dss ++ [[Value.int .i64 x.toNat, Value.int .i64 ((c9.toNat : Int) % 8), Value.int .i64 ((c9.toNat : Int) / 8), Value.int .i64 nn]])), .row w.heap.size 44 1 (.slice Ak k ck) k (cat css), .blk W3.heap.size #[.slice Ak k ck] 24, .blk W0.heap.size #[.slice (some ⟨bb, oo, none⟩) l.length c, .int .i64 s5, .int .i64 e5] 83, .blk w.heap.size #[.slice none 0 0] 24] := T'
                                          replace K' : Keeps wm [.blk wi.heap.size #[.int .i64 x.toNat, .int .i64 ((c9.toNat : Int) % 8), .int .i64 ((c9.toNat : Int) / 8), .int .i64 nn] 43, .row w.heap.size 43 4 (.slice Aj j cj) j (cat dss), .row w.heap.size 44 1 (.slice Ak k ck) k (cat css), .blk W3.heap.size #[.slice Ak k ck] 24, .blk W0.heap.size #[.slice (some ⟨bb, oo, none⟩) l.length c, .int .i64 s5, .int .i64 e5] 83, .blk w.heap.size #[.slice none 0 0] 24] wk [.blk wi.heap.size #[.int .i64 x.toNat, .int .i64 ((c9.toNat : Int) % 8), .int .i64 ((c9.toNat : Int) / 8), .int .i64 nn] 43, .row w.heap.size 43 4 (.slice A8 (j + 1) c8) (j + 1) (cat (dss ++ [[Value.int .i64 x.toNat, Value.int .i64 ((c9.toNat : Int) % 8), Value.int .i64 ((c9.toNat : Int) / 8), Value.int .i64 nn]])), .row w.heap.size 44 1 (.slice Ak k ck) k (cat css), .blk W3.heap.size #[.slice Ak k ck] 24, .blk W0.heap.size #[.slice (some ⟨bb, oo, none⟩) l.length c, .int .i64 s5, .int .i64 e5] 83, .blk w.heap.size #[.slice none 0 0] 24] := K'
                                          replace HT := Lib.hid T'
                                          replace HH := Lib.hid (HH.out.move K')
                                          replace HB := Lib.hid (HB.out.move (by decide) K')
                                          clear T' K'
                                          replace hz5 : W6.heap.size ≤ wk.heap.size := by omega
                                          go_wp2_with fail
                                          obtain ⟨T', K'⟩ := HT.out.drop 0
                                          replace T' : St w.heap.size w wk [.row w.heap.size 43 4 (.slice A8 (j + 1) c8) (j + 1) (cat (dss ++ [[Value.int .i64 x.toNat, Value.int .i64 ((c9.toNat : Int) % 8), Value.int .i64 ((c9.toNat : Int) / 8), Value.int .i64 nn]])), .row w.heap.size 44 1 (.slice Ak k ck) k (cat css), .blk W3.heap.size #[.slice Ak k ck] 24, .blk W0.heap.size #[.slice (some ⟨bb, oo, none⟩) l.length c, .int .i64 s5, .int .i64 e5] 83, .blk w.heap.size #[.slice none 0 0] 24] := T'
                                          replace K' : Keeps wk [.blk wi.heap.size #[.int .i64 x.toNat, .int .i64 ((c9.toNat : Int) % 8), .int .i64 ((c9.toNat : Int) / 8), .int .i64 nn] 43, .row w.heap.size 43 4 (.slice A8 (j + 1) c8) (j + 1) (cat (dss ++ [[Value.int .i64 x.toNat, Value.int .i64 ((c9.toNat : Int) % 8), Value.int .i64 ((c9.toNat : Int) / 8), Value.int .i64 nn]])), .row w.heap.size 44 1 (.slice Ak k ck) k (cat css), .blk W3.heap.size #[.slice Ak k ck] 24, .blk W0.heap.size #[.slice (some ⟨bb, oo, none⟩) l.length c, .int .i64 s5, .int .i64 e5] 83, .blk w.heap.size #[.slice none 0 0] 24] wk [.row w.heap.size 43 4 (.slice A8 (j + 1) c8) (j + 1) (cat (dss ++ [[Value.int .i64 x.toNat, Value.int .i64 ((c9.toNat : Int) % 8), Value.int .i64 ((c9.toNat : Int) / 8), Value.int .i64 nn]])), .row w.heap.size 44 1 (.slice Ak k ck) k (cat css), .blk W3.heap.size #[.slice Ak k ck] 24, .blk W0.heap.size #[.slice (some ⟨bb, oo, none⟩) l.length c, .int .i64 s5, .int .i64 e5] 83, .blk w.heap.size #[.slice none 0 0] 24] := K'
                                          replace HT := Lib.hid T'
                                          replace HH := Lib.hid (HH.out.move K')
                                          replace HB := Lib.hid (HB.out.move (by decide) K')
                                          clear T' K'
                                          go_roundw
                                          case rel => exact ⟨j + 1, s5, .slice A8 (j + 1) c8, e5, dss ++ [[Value.int .i64 x.toNat, Value.int .i64 ((c9.toNat : Int) % 8), Value.int .i64 ((c9.toNat : Int) / 8), Value.int .i64 nn]], rfl, by go_num, by omega, by omega, hz5, HT.out, HB.out, HH.out, .inr ⟨by first | decide | assumption, HC.out⟩⟩
                                          case measure => simp [intOf]; omega
                                · have hdc := drop_none hcl
                                  have hI : instrF (I8 (l.drop sj)) = .error 5 := by rw [Hdx.out]; exact instr_regs (by have := Hop.out; omega) (by rw [hdc]; exact regs_end Hxa.out)
                                  have HI := Lib.hid hI
                                  clear hI hdc
                                  refine (one_end _ t1 _ _ c _ (HT.out.heap 4 rfl) (by omega) (by omega)).mono ?_
                                  rintro en wn ⟨rfl, ho, hd⟩
                                  clear r_ib q_ib r_rd q_rd z_ib z_rd
                                  obtain ⟨T', K'⟩ := HT.out.only 4 rfl ho hd
                                  replace T' : St w.heap.size w wn [.blk wi.heap.size #[.int .i64 x.toNat, .int .i64 0, .int .i64 0, .int .i64 0] 43, .row w.heap.size 43 4 (.slice Aj j cj) j (cat dss), .row w.heap.size 44 1 (.slice Ak k ck) k (cat css), .blk W3.heap.size #[.slice Ak k ck] 24, .blk W0.heap.size #[.slice (some ⟨bb, oo, none⟩) l.length c, .int .i64 t1, .int .i64 5] 83, .blk w.heap.size #[.slice none 0 0] 24] := T'
                                  replace K' : Keeps wo [.blk wi.heap.size #[.int .i64 x.toNat, .int .i64 0, .int .i64 0, .int .i64 0] 43, .row w.heap.size 43 4 (.slice Aj j cj) j (cat dss), .row w.heap.size 44 1 (.slice Ak k ck) k (cat css), .blk W3.heap.size #[.slice Ak k ck] 24, .blk W0.heap.size #[.slice (some ⟨bb, oo, none⟩) l.length c, .int .i64 t1, .int .i64 0] 83, .blk w.heap.size #[.slice none 0 0] 24] wn [.blk wi.heap.size #[.int .i64 x.toNat, .int .i64 0, .int .i64 0, .int .i64 0] 43, .row w.heap.size 43 4 (.slice Aj j cj) j (cat dss), .row w.heap.size 44 1 (.slice Ak k ck) k (cat css), .blk W3.heap.size #[.slice Ak k ck] 24, .blk W0.heap.size #[.slice (some ⟨bb, oo, none⟩) l.length c, .int .i64 t1, .int .i64 5] 83, .blk w.heap.size #[.slice none 0 0] 24] := K'
                                  replace HT := Lib.hid T'
                                  replace HH := Lib.hid (HH.out.move K')
                                  replace HB := Lib.hid (HB.out.move (by decide) K')
                                  replace HD := Lib.hid (HD.out.move K')
                                  clear T' K'
                                  replace hz5 : W6.heap.size ≤ wn.heap.size := Nat.le_trans hz5 ho.size
                                  clear ho hd
                                  obtain ⟨r_ib, q_ib, -, -, r_rd, q_rd, -⟩ := HT.out.rules
                                  have z_ib : wi.heap.size < wn.heap.size := (HT.out.in_ 0 rfl rfl).2
                                  have z_rd : W0.heap.size < wn.heap.size := (HT.out.in_ 4 rfl rfl).2
                                  go_upto_region 27 with fail
                                  clear r_ib q_ib r_rd q_rd z_ib z_rd
                                  obtain ⟨T', K'⟩ := HT.out.put 0 1 (.int .i64 0) rfl
                                  replace T' : St w.heap.size w ((wn.setCell ⟨wi.heap.size, 1, none⟩ (.int .i64 0))) [.blk wi.heap.size #[.int .i64 x.toNat, .int .i64 0, .int .i64 0, .int .i64 0] 43, .row w.heap.size 43 4 (.slice Aj j cj) j (cat dss), .row w.heap.size 44 1 (.slice Ak k ck) k (cat css), .blk W3.heap.size #[.slice Ak k ck] 24, .blk W0.heap.size #[.slice (some ⟨bb, oo, none⟩) l.length c, .int .i64 t1, .int .i64 5] 83, .blk w.heap.size #[.slice none 0 0] 24] := T'
                                  replace K' : Keeps wn [.blk wi.heap.size #[.int .i64 x.toNat, .int .i64 0, .int .i64 0, .int .i64 0] 43, .row w.heap.size 43 4 (.slice Aj j cj) j (cat dss), .row w.heap.size 44 1 (.slice Ak k ck) k (cat css), .blk W3.heap.size #[.slice Ak k ck] 24, .blk W0.heap.size #[.slice (some ⟨bb, oo, none⟩) l.length c, .int .i64 t1, .int .i64 5] 83, .blk w.heap.size #[.slice none 0 0] 24] ((wn.setCell ⟨wi.heap.size, 1, none⟩ (.int .i64 0))) [.blk wi.heap.size #[.int .i64 x.toNat, .int .i64 0, .int .i64 0, .int .i64 0] 43, .row w.heap.size 43 4 (.slice Aj j cj) j (cat dss), .row w.heap.size 44 1 (.slice Ak k ck) k (cat css), .blk W3.heap.size #[.slice Ak k ck] 24, .blk W0.heap.size #[.slice (some ⟨bb, oo, none⟩) l.length c, .int .i64 t1, .int .i64 5] 83, .blk w.heap.size #[.slice none 0 0] 24] := K'
                                  replace HT := Lib.hid T'
                                  replace HH := Lib.hid (HH.out.move K')
                                  replace HB := Lib.hid (HB.out.move (by decide) K')
                                  replace HD := Lib.hid (HD.out.move K')
                                  clear T' K'
                                  replace hz5 : W6.heap.size ≤ ((wn.setCell ⟨wi.heap.size, 1, none⟩ (.int .i64 0))).heap.size := by simpa using hz5
                                  generalize wn.setCell ⟨wi.heap.size, 1, none⟩ (.int .i64 0) = wA at *
                                  obtain ⟨T', K'⟩ := HT.out.put 0 2 (.int .i64 0) rfl
                                  replace T' : St w.heap.size w ((wA.setCell ⟨wi.heap.size, 2, none⟩ (.int .i64 0))) [.blk wi.heap.size #[.int .i64 x.toNat, .int .i64 0, .int .i64 0, .int .i64 0] 43, .row w.heap.size 43 4 (.slice Aj j cj) j (cat dss), .row w.heap.size 44 1 (.slice Ak k ck) k (cat css), .blk W3.heap.size #[.slice Ak k ck] 24, .blk W0.heap.size #[.slice (some ⟨bb, oo, none⟩) l.length c, .int .i64 t1, .int .i64 5] 83, .blk w.heap.size #[.slice none 0 0] 24] := T'
                                  replace K' : Keeps wA [.blk wi.heap.size #[.int .i64 x.toNat, .int .i64 0, .int .i64 0, .int .i64 0] 43, .row w.heap.size 43 4 (.slice Aj j cj) j (cat dss), .row w.heap.size 44 1 (.slice Ak k ck) k (cat css), .blk W3.heap.size #[.slice Ak k ck] 24, .blk W0.heap.size #[.slice (some ⟨bb, oo, none⟩) l.length c, .int .i64 t1, .int .i64 5] 83, .blk w.heap.size #[.slice none 0 0] 24] ((wA.setCell ⟨wi.heap.size, 2, none⟩ (.int .i64 0))) [.blk wi.heap.size #[.int .i64 x.toNat, .int .i64 0, .int .i64 0, .int .i64 0] 43, .row w.heap.size 43 4 (.slice Aj j cj) j (cat dss), .row w.heap.size 44 1 (.slice Ak k ck) k (cat css), .blk W3.heap.size #[.slice Ak k ck] 24, .blk W0.heap.size #[.slice (some ⟨bb, oo, none⟩) l.length c, .int .i64 t1, .int .i64 5] 83, .blk w.heap.size #[.slice none 0 0] 24] := K'
                                  replace HT := Lib.hid T'
                                  replace HH := Lib.hid (HH.out.move K')
                                  replace HB := Lib.hid (HB.out.move (by decide) K')
                                  replace HD := Lib.hid (HD.out.move K')
                                  clear T' K'
                                  replace hz5 : W6.heap.size ≤ ((wA.setCell ⟨wi.heap.size, 2, none⟩ (.int .i64 0))).heap.size := by simpa using hz5
                                  generalize wA.setCell ⟨wi.heap.size, 2, none⟩ (.int .i64 0) = wB at *
                                  have hC1 : codeD M (I8 (l.drop t3)) = .error 5 := by rw [HC.out, show M - j = (M - j - 1) + 1 by omega, codeD_err (HI.out)]; rfl
                                  replace HC := Lib.hid hC1
                                  clear hC1 HD
                                  obtain ⟨r_ib, q_ib, r_p, q_p, r_rd, q_rd, -⟩ := HT.out.rules
                                  have z_ib : wi.heap.size < wB.heap.size := (HT.out.in_ 0 rfl rfl).2
                                  have z_p : W3.heap.size < wB.heap.size := (HT.out.in_ 3 rfl rfl).2
                                  have z_rd : W0.heap.size < wB.heap.size := (HT.out.in_ 4 rfl rfl).2
                                  go_wp2_with (at_builtin; go_loud (refine wpList_append_css rfl (.tmp 121) (.tmp 123) _ rfl (e := 43) (size := 4) (bytes := 32) Tryd.underlying44 infoN rfl (by omega) HT.out 1 rfl rfl [Value.int .i64 x.toNat, Value.int .i64 0, Value.int .i64 0, Value.int .i64 0] 43 rfl rfl (by simp [Value.oneCell']) (by unfold maxLen; omega) (by omega) HT.out.base ?next))
                                  case next =>
                                    intro A8 c8 wk T' K' hs3
                                    clear r_ib q_ib r_p q_p r_rd q_rd z_ib z_p z_rd
                                    replace T' : St w.heap.size w wk [.blk wi.heap.size #[.int .i64 x.toNat, .int .i64 0, .int .i64 0, .int .i64 0] 43, .row w.heap.size 43 4 (.slice A8 (j + 1) c8) (j + 1) (cat (dss ++ [[Value.int .i64 x.toNat, Value.int .i64 0, Value.int .i64 0, Value.int .i64 0]])), .row w.heap.size 44 1 (.slice Ak k ck) k (cat css), .blk W3.heap.size #[.slice Ak k ck] 24, .blk W0.heap.size #[.slice (some ⟨bb, oo, none⟩) l.length c, .int .i64 t1, .int .i64 5] 83, .blk w.heap.size #[.slice none 0 0] 24] := T'
                                    replace K' : Keeps wB [.blk wi.heap.size #[.int .i64 x.toNat, .int .i64 0, .int .i64 0, .int .i64 0] 43, .row w.heap.size 43 4 (.slice Aj j cj) j (cat dss), .row w.heap.size 44 1 (.slice Ak k ck) k (cat css), .blk W3.heap.size #[.slice Ak k ck] 24, .blk W0.heap.size #[.slice (some ⟨bb, oo, none⟩) l.length c, .int .i64 t1, .int .i64 5] 83, .blk w.heap.size #[.slice none 0 0] 24] wk [.blk wi.heap.size #[.int .i64 x.toNat, .int .i64 0, .int .i64 0, .int .i64 0] 43, .row w.heap.size 43 4 (.slice A8 (j + 1) c8) (j + 1) (cat (dss ++ [[Value.int .i64 x.toNat, Value.int .i64 0, Value.int .i64 0, Value.int .i64 0]])), .row w.heap.size 44 1 (.slice Ak k ck) k (cat css), .blk W3.heap.size #[.slice Ak k ck] 24, .blk W0.heap.size #[.slice (some ⟨bb, oo, none⟩) l.length c, .int .i64 t1, .int .i64 5] 83, .blk w.heap.size #[.slice none 0 0] 24] := K'
                                    replace HT := Lib.hid T'
                                    replace HH := Lib.hid (HH.out.move K')
                                    replace HB := Lib.hid (HB.out.move (by decide) K')
                                    clear T' K'
                                    replace hz5 : W6.heap.size ≤ wk.heap.size := by omega
                                    go_wp2_with fail
                                    obtain ⟨T', K'⟩ := HT.out.drop 0
                                    replace T' : St w.heap.size w wk [.row w.heap.size 43 4 (.slice A8 (j + 1) c8) (j + 1) (cat (dss ++ [[Value.int .i64 x.toNat, Value.int .i64 0, Value.int .i64 0, Value.int .i64 0]])), .row w.heap.size 44 1 (.slice Ak k ck) k (cat css), .blk W3.heap.size #[.slice Ak k ck] 24, .blk W0.heap.size #[.slice (some ⟨bb, oo, none⟩) l.length c, .int .i64 t1, .int .i64 5] 83, .blk w.heap.size #[.slice none 0 0] 24] := T'
                                    replace K' : Keeps wk [.blk wi.heap.size #[.int .i64 x.toNat, .int .i64 0, .int .i64 0, .int .i64 0] 43, .row w.heap.size 43 4 (.slice A8 (j + 1) c8) (j + 1) (cat (dss ++ [[Value.int .i64 x.toNat, Value.int .i64 0, Value.int .i64 0, Value.int .i64 0]])), .row w.heap.size 44 1 (.slice Ak k ck) k (cat css), .blk W3.heap.size #[.slice Ak k ck] 24, .blk W0.heap.size #[.slice (some ⟨bb, oo, none⟩) l.length c, .int .i64 t1, .int .i64 5] 83, .blk w.heap.size #[.slice none 0 0] 24] wk [.row w.heap.size 43 4 (.slice A8 (j + 1) c8) (j + 1) (cat (dss ++ [[Value.int .i64 x.toNat, Value.int .i64 0, Value.int .i64 0, Value.int .i64 0]])), .row w.heap.size 44 1 (.slice Ak k ck) k (cat css), .blk W3.heap.size #[.slice Ak k ck] 24, .blk W0.heap.size #[.slice (some ⟨bb, oo, none⟩) l.length c, .int .i64 t1, .int .i64 5] 83, .blk w.heap.size #[.slice none 0 0] 24] := K'
                                    replace HT := Lib.hid T'
                                    replace HH := Lib.hid (HH.out.move K')
                                    replace HB := Lib.hid (HB.out.move (by decide) K')
                                    clear T' K'
                                    go_roundw
                                    case rel => exact ⟨j + 1, t1, .slice A8 (j + 1) c8, 5, dss ++ [[Value.int .i64 x.toNat, Value.int .i64 0, Value.int .i64 0, Value.int .i64 0]], rfl, by go_num, by omega, by omega, hz5, HT.out, HB.out, HH.out, .inr ⟨by first | decide | assumption, HC.out⟩⟩
                                    case measure => simp [intOf]; omega
                          · have hdx := drop_none hxl
                            refine (one_end _ sj _ _ c _ (HT.out.heap 3 rfl) (by omega) (by omega)).mono ?_
                            rintro en wi ⟨rfl, ho, hd⟩
                            clear r_p q_p r_rd q_rd r_res q_res z_p z_rd z_res
                            obtain ⟨T', K'⟩ := HT.out.only 3 rfl ho hd
                            replace T' : St w.heap.size w wi [.row w.heap.size 43 4 (.slice Aj j cj) j (cat dss), .row w.heap.size 44 1 (.slice Ak k ck) k (cat css), .blk W3.heap.size #[.slice Ak k ck] 24, .blk W0.heap.size #[.slice (some ⟨bb, oo, none⟩) l.length c, .int .i64 sj, .int .i64 5] 83, .blk w.heap.size #[.slice none 0 0] 24] := T'
                            replace K' : Keeps wp [.row w.heap.size 43 4 (.slice Aj j cj) j (cat dss), .row w.heap.size 44 1 (.slice Ak k ck) k (cat css), .blk W3.heap.size #[.slice Ak k ck] 24, .blk W0.heap.size #[.slice (some ⟨bb, oo, none⟩) l.length c, .int .i64 sj, .int .i64 0] 83, .blk w.heap.size #[.slice none 0 0] 24] wi [.row w.heap.size 43 4 (.slice Aj j cj) j (cat dss), .row w.heap.size 44 1 (.slice Ak k ck) k (cat css), .blk W3.heap.size #[.slice Ak k ck] 24, .blk W0.heap.size #[.slice (some ⟨bb, oo, none⟩) l.length c, .int .i64 sj, .int .i64 5] 83, .blk w.heap.size #[.slice none 0 0] 24] := K'
                            replace HT := Lib.hid T'
                            replace HH := Lib.hid (HH.out.move K')
                            replace HB := Lib.hid (HB.out.move (by decide) K')
                            replace HD := Lib.hid (HD.out.move K')
                            clear T' K'
                            replace hz5 : W6.heap.size ≤ wi.heap.size := Nat.le_trans hz5 ho.size
                            clear ho hd
                            go_upto_region 19 with fail
                            obtain ⟨T', K'⟩ := HT.out.new' #[.int .i64 0, .int .i64 0, .int .i64 0, .int .i64 0] 43 wi.heap.size (by first | (simp; done) | rfl)
                            replace T' : St w.heap.size w ((wi.alloc (.cells #[.int .i64 0, .int .i64 0, .int .i64 0, .int .i64 0] 43))) [.blk wi.heap.size #[.int .i64 0, .int .i64 0, .int .i64 0, .int .i64 0] 43, .row w.heap.size 43 4 (.slice Aj j cj) j (cat dss), .row w.heap.size 44 1 (.slice Ak k ck) k (cat css), .blk W3.heap.size #[.slice Ak k ck] 24, .blk W0.heap.size #[.slice (some ⟨bb, oo, none⟩) l.length c, .int .i64 sj, .int .i64 5] 83, .blk w.heap.size #[.slice none 0 0] 24] := T'
                            replace K' : Keeps wi [.row w.heap.size 43 4 (.slice Aj j cj) j (cat dss), .row w.heap.size 44 1 (.slice Ak k ck) k (cat css), .blk W3.heap.size #[.slice Ak k ck] 24, .blk W0.heap.size #[.slice (some ⟨bb, oo, none⟩) l.length c, .int .i64 sj, .int .i64 5] 83, .blk w.heap.size #[.slice none 0 0] 24] ((wi.alloc (.cells #[.int .i64 0, .int .i64 0, .int .i64 0, .int .i64 0] 43))) [.blk wi.heap.size #[.int .i64 0, .int .i64 0, .int .i64 0, .int .i64 0] 43, .row w.heap.size 43 4 (.slice Aj j cj) j (cat dss), .row w.heap.size 44 1 (.slice Ak k ck) k (cat css), .blk W3.heap.size #[.slice Ak k ck] 24, .blk W0.heap.size #[.slice (some ⟨bb, oo, none⟩) l.length c, .int .i64 sj, .int .i64 5] 83, .blk w.heap.size #[.slice none 0 0] 24] := K'
                            replace HT := Lib.hid T'
                            replace HH := Lib.hid (HH.out.move K')
                            replace HB := Lib.hid (HB.out.move (by decide) K')
                            replace HD := Lib.hid (HD.out.move K')
                            clear T' K'
                            replace hz5 : W6.heap.size ≤ ((wi.alloc (.cells #[.int .i64 0, .int .i64 0, .int .i64 0, .int .i64 0] 43))).heap.size := Nat.le_trans hz5 (by simp)
                            generalize (wi.alloc (.cells #[.int .i64 0, .int .i64 0, .int .i64 0, .int .i64 0] 43)) = wo at *
                            replace hz5 : W6.heap.size ≤ wo.heap.size := hz5
                            have hC1 : codeD M (I8 (l.drop t3)) = .error 5 := by rw [HC.out, show M - j = (M - j - 1) + 1 by omega, codeD_err ((by rw [hdx]; exact instr_none))]; rfl
                            replace HC := Lib.hid hC1
                            clear hC1 HD
                            obtain ⟨r_ib, q_ib, r_p, q_p, r_rd, q_rd, -⟩ := HT.out.rules
                            have z_ib : wi.heap.size < wo.heap.size := (HT.out.in_ 0 rfl rfl).2
                            have z_p : W3.heap.size < wo.heap.size := (HT.out.in_ 3 rfl rfl).2
                            have z_rd : W0.heap.size < wo.heap.size := (HT.out.in_ 4 rfl rfl).2
                            go_wp2_with (at_builtin; go_loud (refine wpList_append_css rfl (.tmp 121) (.tmp 123) _ rfl (e := 43) (size := 4) (bytes := 32) Tryd.underlying44 infoN rfl (by omega) HT.out 1 rfl rfl [Value.int .i64 0, Value.int .i64 0, Value.int .i64 0, Value.int .i64 0] 43 rfl rfl (by simp [Value.oneCell']) (by unfold maxLen; omega) (by omega) HT.out.base ?next))
                            case next =>
                              intro A8 c8 wk T' K' hs3
                              clear r_ib q_ib r_p q_p r_rd q_rd z_ib z_p z_rd
                              replace T' : St w.heap.size w wk [.blk wi.heap.size #[.int .i64 0, .int .i64 0, .int .i64 0, .int .i64 0] 43, .row w.heap.size 43 4 (.slice A8 (j + 1) c8) (j + 1) (cat (dss ++ [[Value.int .i64 0, Value.int .i64 0, Value.int .i64 0, Value.int .i64 0]])), .row w.heap.size 44 1 (.slice Ak k ck) k (cat css), .blk W3.heap.size #[.slice Ak k ck] 24, .blk W0.heap.size #[.slice (some ⟨bb, oo, none⟩) l.length c, .int .i64 sj, .int .i64 5] 83, .blk w.heap.size #[.slice none 0 0] 24] := T'
                              replace K' : Keeps wo [.blk wi.heap.size #[.int .i64 0, .int .i64 0, .int .i64 0, .int .i64 0] 43, .row w.heap.size 43 4 (.slice Aj j cj) j (cat dss), .row w.heap.size 44 1 (.slice Ak k ck) k (cat css), .blk W3.heap.size #[.slice Ak k ck] 24, .blk W0.heap.size #[.slice (some ⟨bb, oo, none⟩) l.length c, .int .i64 sj, .int .i64 5] 83, .blk w.heap.size #[.slice none 0 0] 24] wk [.blk wi.heap.size #[.int .i64 0, .int .i64 0, .int .i64 0, .int .i64 0] 43, .row w.heap.size 43 4 (.slice A8 (j + 1) c8) (j + 1) (cat (dss ++ [[Value.int .i64 0, Value.int .i64 0, Value.int .i64 0, Value.int .i64 0]])), .row w.heap.size 44 1 (.slice Ak k ck) k (cat css), .blk W3.heap.size #[.slice Ak k ck] 24, .blk W0.heap.size #[.slice (some ⟨bb, oo, none⟩) l.length c, .int .i64 sj, .int .i64 5] 83, .blk w.heap.size #[.slice none 0 0] 24] := K'
                              replace HT := Lib.hid T'
                              replace HH := Lib.hid (HH.out.move K')
                              replace HB := Lib.hid (HB.out.move (by decide) K')
                              clear T' K'
                              replace hz5 : W6.heap.size ≤ wk.heap.size := by omega
                              go_wp2_with fail
                              obtain ⟨T', K'⟩ := HT.out.drop 0
                              replace T' : St w.heap.size w wk [.row w.heap.size 43 4 (.slice A8 (j + 1) c8) (j + 1) (cat (dss ++ [[Value.int .i64 0, Value.int .i64 0, Value.int .i64 0, Value.int .i64 0]])), .row w.heap.size 44 1 (.slice Ak k ck) k (cat css), .blk W3.heap.size #[.slice Ak k ck] 24, .blk W0.heap.size #[.slice (some ⟨bb, oo, none⟩) l.length c, .int .i64 sj, .int .i64 5] 83, .blk w.heap.size #[.slice none 0 0] 24] := T'
                              replace K' : Keeps wk [.blk wi.heap.size #[.int .i64 0, .int .i64 0, .int .i64 0, .int .i64 0] 43, .row w.heap.size 43 4 (.slice A8 (j + 1) c8) (j + 1) (cat (dss ++ [[Value.int .i64 0, Value.int .i64 0, Value.int .i64 0, Value.int .i64 0]])), .row w.heap.size 44 1 (.slice Ak k ck) k (cat css), .blk W3.heap.size #[.slice Ak k ck] 24, .blk W0.heap.size #[.slice (some ⟨bb, oo, none⟩) l.length c, .int .i64 sj, .int .i64 5] 83, .blk w.heap.size #[.slice none 0 0] 24] wk [.row w.heap.size 43 4 (.slice A8 (j + 1) c8) (j + 1) (cat (dss ++ [[Value.int .i64 0, Value.int .i64 0, Value.int .i64 0, Value.int .i64 0]])), .row w.heap.size 44 1 (.slice Ak k ck) k (cat css), .blk W3.heap.size #[.slice Ak k ck] 24, .blk W0.heap.size #[.slice (some ⟨bb, oo, none⟩) l.length c, .int .i64 sj, .int .i64 5] 83, .blk w.heap.size #[.slice none 0 0] 24] := K'
                              replace HT := Lib.hid T'
                              replace HH := Lib.hid (HH.out.move K')
                              replace HB := Lib.hid (HB.out.move (by decide) K')
                              clear T' K'
                              go_roundw
                              case rel => exact ⟨j + 1, sj, .slice A8 (j + 1) c8, 5, dss ++ [[Value.int .i64 0, Value.int .i64 0, Value.int .i64 0, Value.int .i64 0]], rfl, by go_num, by omega, by omega, hz5, HT.out, HB.out, HH.out, .inr ⟨by first | decide | assumption, HC.out⟩⟩
                              case measure => simp [intOf]; omega
                        · have i3 : ¬ (j : Int) < (M : Int) := by omega
                          have hjM : j = M := by omega
                          have hC1 : codeD M (I8 (l.drop t3)) = .ok (is, I8 (l.drop sj)) := by rw [HC.out, hjM, Nat.sub_self]; show Except.ok (is ++ [], I8 (l.drop sj)) = _; rw [List.append_nil]
                          have hE1 : kindsD N (I8 l0) = pre (ps ++ [is]) (kindsD (N - (k + 1)) (I8 (l.drop sj))) := by rw [HE.out, show N - k = (N - (k + 1)) + 1 by omega, Hdm.out, show I8 (m :: l.drop t3) = (M : Int) :: I8 (l.drop t3) by rw [← hM]; rfl, kindsD_ok (by rw [Int.toNat_natCast]; exact hC1), pre_pre]
                          replace HE := Lib.hid hE1
                          clear hE1 hC1 HC hjM
                          obtain ⟨r_p, q_p, r_rd, q_rd, r_res, q_res, -⟩ := HT.out.rules
                          have z_p : W3.heap.size < wp.heap.size := (HT.out.in_ 2 rfl rfl).2
                          have z_rd : W0.heap.size < wp.heap.size := (HT.out.in_ 3 rfl rfl).2
                          have z_res : w.heap.size < wp.heap.size := (HT.out.in_ 4 rfl rfl).2
                          clear r_p q_p r_rd q_rd r_res q_res z_p z_rd z_res
                          have Hv := Lib.hid (HT.out.rdOut (E := insE) (n := w.heap.size) 0 rfl rfl his.symm HD.out (by show is.length * 32 ≤ _; omega) (Nat.le_refl _) (by decide))
                          clear HD
                          obtain ⟨T', K'⟩ := HT.out.drop 0
                          replace T' : St w.heap.size w wp [.row w.heap.size 44 1 (.slice Ak k ck) k (cat css), .blk W3.heap.size #[.slice Ak k ck] 24, .blk W0.heap.size #[.slice (some ⟨bb, oo, none⟩) l.length c, .int .i64 sj, .int .i64 0] 83, .blk w.heap.size #[.slice none 0 0] 24] := T'
                          replace K' : Keeps wp [.row w.heap.size 43 4 (.slice Aj j cj) j (cat dss), .row w.heap.size 44 1 (.slice Ak k ck) k (cat css), .blk W3.heap.size #[.slice Ak k ck] 24, .blk W0.heap.size #[.slice (some ⟨bb, oo, none⟩) l.length c, .int .i64 sj, .int .i64 0] 83, .blk w.heap.size #[.slice none 0 0] 24] wp [.row w.heap.size 44 1 (.slice Ak k ck) k (cat css), .blk W3.heap.size #[.slice Ak k ck] 24, .blk W0.heap.size #[.slice (some ⟨bb, oo, none⟩) l.length c, .int .i64 sj, .int .i64 0] 83, .blk w.heap.size #[.slice none 0 0] 24] := K'
                          replace HT := Lib.hid T'
                          replace HH := Lib.hid (HH.out.move K')
                          replace HB := Lib.hid (HB.out.move (by decide) K')
                          clear T' K'
                          replace Hv : Hid (RdSl insE wp (Fr w.heap.size [.row w.heap.size 44 1 (.slice Ak k ck) k (cat css), .blk W3.heap.size #[.slice Ak k ck] 24, .blk W0.heap.size #[.slice (some ⟨bb, oo, none⟩) l.length c, .int .i64 sj, .int .i64 0] 83, .blk w.heap.size #[.slice none 0 0] 24]) (.slice Aj j cj) is) := Hv
                          obtain ⟨r_p, q_p, r_rd, q_rd, r_res, q_res, -⟩ := HT.out.rules
                          have z_p : W3.heap.size < wp.heap.size := (HT.out.in_ 1 rfl rfl).2
                          have z_rd : W0.heap.size < wp.heap.size := (HT.out.in_ 2 rfl rfl).2
                          have z_res : w.heap.size < wp.heap.size := (HT.out.in_ 3 rfl rfl).2
                          go_wp2_with (at_builtin; go_loud (refine wpList_append_css rfl (.tmp 126) (.tmp 128) _ rfl (e := 44) (size := 1) (bytes := 24) Tryd.underlying22 infoSI rfl (by omega) HT.out 0 rfl rfl [Value.slice Aj j cj] 44 rfl rfl (by simp [Value.oneCell']) (by unfold maxLen; omega) (by omega) HT.out.base ?next))
                          case next =>
                            intro A9 c9 wg T' K' hs3
                            clear r_p q_p r_rd q_rd r_res q_res z_p z_rd z_res
                            replace T' : St w.heap.size w wg [.row w.heap.size 44 1 (.slice A9 (k + 1) c9) (k + 1) (cat (css ++ [[Value.slice Aj j cj]])), .blk W3.heap.size #[.slice Ak k ck] 24, .blk W0.heap.size #[.slice (some ⟨bb, oo, none⟩) l.length c, .int .i64 sj, .int .i64 0] 83, .blk w.heap.size #[.slice none 0 0] 24] := T'
                            replace K' : Keeps wp [.row w.heap.size 44 1 (.slice Ak k ck) k (cat css), .blk W3.heap.size #[.slice Ak k ck] 24, .blk W0.heap.size #[.slice (some ⟨bb, oo, none⟩) l.length c, .int .i64 sj, .int .i64 0] 83, .blk w.heap.size #[.slice none 0 0] 24] wg [.row w.heap.size 44 1 (.slice A9 (k + 1) c9) (k + 1) (cat (css ++ [[Value.slice Aj j cj]])), .blk W3.heap.size #[.slice Ak k ck] 24, .blk W0.heap.size #[.slice (some ⟨bb, oo, none⟩) l.length c, .int .i64 sj, .int .i64 0] 83, .blk w.heap.size #[.slice none 0 0] 24] := K'
                            replace HT := Lib.hid T'
                            replace HH := Lib.hid (HH.out.move K')
                            replace HB := Lib.hid (HB.out.move (by decide) K')
                            replace Hv := Lib.hid (Hv.out.move (by decide) K')
                            clear T' K'
                            replace hz5 : W6.heap.size ≤ wg.heap.size := by omega
                            obtain ⟨r_p, q_p, -⟩ := HT.out.rules
                            have z_p : W3.heap.size < wg.heap.size := (HT.out.in_ 1 rfl rfl).2
                            go_wp2_with fail
                            clear r_p q_p z_p
                            obtain ⟨T', K'⟩ := HT.out.put 1 0 (.slice A9 (k + 1) c9) rfl
                            replace T' : St w.heap.size w ((wg.setCell ⟨W3.heap.size, 0, none⟩ (.slice A9 (k + 1) c9))) [.row w.heap.size 44 1 (.slice A9 (k + 1) c9) (k + 1) (cat (css ++ [[Value.slice Aj j cj]])), .blk W3.heap.size #[.slice A9 (k + 1) c9] 24, .blk W0.heap.size #[.slice (some ⟨bb, oo, none⟩) l.length c, .int .i64 sj, .int .i64 0] 83, .blk w.heap.size #[.slice none 0 0] 24] := T'
                            replace K' : Keeps wg [.row w.heap.size 44 1 (.slice A9 (k + 1) c9) (k + 1) (cat (css ++ [[Value.slice Aj j cj]])), .blk W3.heap.size #[.slice Ak k ck] 24, .blk W0.heap.size #[.slice (some ⟨bb, oo, none⟩) l.length c, .int .i64 sj, .int .i64 0] 83, .blk w.heap.size #[.slice none 0 0] 24] ((wg.setCell ⟨W3.heap.size, 0, none⟩ (.slice A9 (k + 1) c9))) [.row w.heap.size 44 1 (.slice A9 (k + 1) c9) (k + 1) (cat (css ++ [[Value.slice Aj j cj]])), .blk W3.heap.size #[.slice A9 (k + 1) c9] 24, .blk W0.heap.size #[.slice (some ⟨bb, oo, none⟩) l.length c, .int .i64 sj, .int .i64 0] 83, .blk w.heap.size #[.slice none 0 0] 24] := K'
                            replace HT := Lib.hid T'
                            replace HH := Lib.hid (HH.out.move K')
                            replace HB := Lib.hid (HB.out.move (by decide) K')
                            replace Hv := Lib.hid (Hv.out.move (by decide) K')
                            clear T' K'
                            replace hz5 : W6.heap.size ≤ ((wg.setCell ⟨W3.heap.size, 0, none⟩ (.slice A9 (k + 1) c9))).heap.size := by simpa using hz5
                            generalize wg.setCell ⟨W3.heap.size, 0, none⟩ (.slice A9 (k + 1) c9) = wh at *
                            have hnew := HH.out.append (Held.single (E := pgE) (cs := [Value.slice Aj j cj]) (x := is) rfl ⟨_, rfl, Hv.out⟩)
                            go_roundw
                            case rel =>
                              refine ⟨k + 1, sj, .slice A9 (k + 1) c9, 0, css ++ [[Value.slice Aj j cj]], by go_num, by omega, by omega, hz5, HT.out, HB.out, ?_⟩
                              exact .inl ⟨rfl, ps ++ [is], hnew, by simp [hps], HE.out⟩
                            case measure => simp [intOf]; omega
                      · have her0 : (er == 0) = false := by simpa using her
                        have hE1 : kindsD N (I8 l0) = .error er := by rw [HE.out, show N - k = (N - k - 1) + 1 by omega, Hdm.out, show I8 (m :: l.drop t3) = (M : Int) :: I8 (l.drop t3) by rw [← hM]; rfl, kindsD_err (by rw [Int.toNat_natCast]; exact hC)]; rfl
                        replace HE := Lib.hid hE1
                        clear hE1 hC
                        obtain ⟨r_p, q_p, r_rd, q_rd, r_res, q_res, -⟩ := HT.out.rules
                        have z_p : W3.heap.size < wp.heap.size := (HT.out.in_ 2 rfl rfl).2
                        have z_rd : W0.heap.size < wp.heap.size := (HT.out.in_ 3 rfl rfl).2
                        have z_res : w.heap.size < wp.heap.size := (HT.out.in_ 4 rfl rfl).2
                        by_cases hjl : j < M
                        · have i3 : (j : Int) < (M : Int) := by omega
                          clear r_p q_p r_rd q_rd r_res q_res z_p z_rd z_res
                          obtain ⟨T', K'⟩ := HT.out.drop 0
                          replace T' : St w.heap.size w wp [.row w.heap.size 44 1 (.slice Ak k ck) k (cat css), .blk W3.heap.size #[.slice Ak k ck] 24, .blk W0.heap.size #[.slice (some ⟨bb, oo, none⟩) l.length c, .int .i64 sj, .int .i64 er] 83, .blk w.heap.size #[.slice none 0 0] 24] := T'
                          replace K' : Keeps wp [.row w.heap.size 43 4 (.slice Aj j cj) j (cat dss), .row w.heap.size 44 1 (.slice Ak k ck) k (cat css), .blk W3.heap.size #[.slice Ak k ck] 24, .blk W0.heap.size #[.slice (some ⟨bb, oo, none⟩) l.length c, .int .i64 sj, .int .i64 er] 83, .blk w.heap.size #[.slice none 0 0] 24] wp [.row w.heap.size 44 1 (.slice Ak k ck) k (cat css), .blk W3.heap.size #[.slice Ak k ck] 24, .blk W0.heap.size #[.slice (some ⟨bb, oo, none⟩) l.length c, .int .i64 sj, .int .i64 er] 83, .blk w.heap.size #[.slice none 0 0] 24] := K'
                          replace HT := Lib.hid T'
                          replace HH := Lib.hid (HH.out.move K')
                          replace HB := Lib.hid (HB.out.move (by decide) K')
                          clear T' K'
                          obtain ⟨r_p, q_p, r_rd, q_rd, r_res, q_res, -⟩ := HT.out.rules
                          have z_p : W3.heap.size < wp.heap.size := (HT.out.in_ 1 rfl rfl).2
                          have z_rd : W0.heap.size < wp.heap.size := (HT.out.in_ 2 rfl rfl).2
                          have z_res : w.heap.size < wp.heap.size := (HT.out.in_ 3 rfl rfl).2
                          go_wp2_with (at_builtin; go_loud (refine wpList_append_css rfl (.tmp 126) (.tmp 128) _ rfl (e := 44) (size := 1) (bytes := 24) Tryd.underlying22 infoSI rfl (by omega) HT.out 0 rfl rfl [Value.slice Aj j cj] 44 rfl rfl (by simp [Value.oneCell']) (by unfold maxLen; omega) (by omega) HT.out.base ?next))
                          case next =>
                            intro A9 c9 wg T' K' hs3
                            clear r_p q_p r_rd q_rd r_res q_res z_p z_rd z_res
                            replace T' : St w.heap.size w wg [.row w.heap.size 44 1 (.slice A9 (k + 1) c9) (k + 1) (cat (css ++ [[Value.slice Aj j cj]])), .blk W3.heap.size #[.slice Ak k ck] 24, .blk W0.heap.size #[.slice (some ⟨bb, oo, none⟩) l.length c, .int .i64 sj, .int .i64 er] 83, .blk w.heap.size #[.slice none 0 0] 24] := T'
                            replace K' : Keeps wp [.row w.heap.size 44 1 (.slice Ak k ck) k (cat css), .blk W3.heap.size #[.slice Ak k ck] 24, .blk W0.heap.size #[.slice (some ⟨bb, oo, none⟩) l.length c, .int .i64 sj, .int .i64 er] 83, .blk w.heap.size #[.slice none 0 0] 24] wg [.row w.heap.size 44 1 (.slice A9 (k + 1) c9) (k + 1) (cat (css ++ [[Value.slice Aj j cj]])), .blk W3.heap.size #[.slice Ak k ck] 24, .blk W0.heap.size #[.slice (some ⟨bb, oo, none⟩) l.length c, .int .i64 sj, .int .i64 er] 83, .blk w.heap.size #[.slice none 0 0] 24] := K'
                            replace HT := Lib.hid T'
                            replace HH := Lib.hid (HH.out.move K')
                            replace HB := Lib.hid (HB.out.move (by decide) K')
                            clear T' K'
                            replace hz5 : W6.heap.size ≤ wg.heap.size := by omega
                            obtain ⟨r_p, q_p, -⟩ := HT.out.rules
                            have z_p : W3.heap.size < wg.heap.size := (HT.out.in_ 1 rfl rfl).2
                            go_wp2_with fail
                            clear r_p q_p z_p
                            obtain ⟨T', K'⟩ := HT.out.put 1 0 (.slice A9 (k + 1) c9) rfl
                            replace T' : St w.heap.size w ((wg.setCell ⟨W3.heap.size, 0, none⟩ (.slice A9 (k + 1) c9))) [.row w.heap.size 44 1 (.slice A9 (k + 1) c9) (k + 1) (cat (css ++ [[Value.slice Aj j cj]])), .blk W3.heap.size #[.slice A9 (k + 1) c9] 24, .blk W0.heap.size #[.slice (some ⟨bb, oo, none⟩) l.length c, .int .i64 sj, .int .i64 er] 83, .blk w.heap.size #[.slice none 0 0] 24] := T'
                            replace K' : Keeps wg [.row w.heap.size 44 1 (.slice A9 (k + 1) c9) (k + 1) (cat (css ++ [[Value.slice Aj j cj]])), .blk W3.heap.size #[.slice Ak k ck] 24, .blk W0.heap.size #[.slice (some ⟨bb, oo, none⟩) l.length c, .int .i64 sj, .int .i64 er] 83, .blk w.heap.size #[.slice none 0 0] 24] ((wg.setCell ⟨W3.heap.size, 0, none⟩ (.slice A9 (k + 1) c9))) [.row w.heap.size 44 1 (.slice A9 (k + 1) c9) (k + 1) (cat (css ++ [[Value.slice Aj j cj]])), .blk W3.heap.size #[.slice A9 (k + 1) c9] 24, .blk W0.heap.size #[.slice (some ⟨bb, oo, none⟩) l.length c, .int .i64 sj, .int .i64 er] 83, .blk w.heap.size #[.slice none 0 0] 24] := K'
                            replace HT := Lib.hid T'
                            replace HH := Lib.hid (HH.out.move K')
                            replace HB := Lib.hid (HB.out.move (by decide) K')
                            clear T' K'
                            replace hz5 : W6.heap.size ≤ ((wg.setCell ⟨W3.heap.size, 0, none⟩ (.slice A9 (k + 1) c9))).heap.size := by simpa using hz5
                            generalize wg.setCell ⟨W3.heap.size, 0, none⟩ (.slice A9 (k + 1) c9) = wh at *
                            go_roundw
                            case rel =>
                              refine ⟨k + 1, sj, .slice A9 (k + 1) c9, er, css ++ [[Value.slice Aj j cj]], by go_num, by omega, by omega, hz5, HT.out, HB.out, ?_⟩
                              exact .inr ⟨her, HE.out⟩
                            case measure => simp [intOf]; omega
                        · have i3 : ¬ (j : Int) < (M : Int) := by omega
                          clear r_p q_p r_rd q_rd r_res q_res z_p z_rd z_res
                          obtain ⟨T', K'⟩ := HT.out.drop 0
                          replace T' : St w.heap.size w wp [.row w.heap.size 44 1 (.slice Ak k ck) k (cat css), .blk W3.heap.size #[.slice Ak k ck] 24, .blk W0.heap.size #[.slice (some ⟨bb, oo, none⟩) l.length c, .int .i64 sj, .int .i64 er] 83, .blk w.heap.size #[.slice none 0 0] 24] := T'
                          replace K' : Keeps wp [.row w.heap.size 43 4 (.slice Aj j cj) j (cat dss), .row w.heap.size 44 1 (.slice Ak k ck) k (cat css), .blk W3.heap.size #[.slice Ak k ck] 24, .blk W0.heap.size #[.slice (some ⟨bb, oo, none⟩) l.length c, .int .i64 sj, .int .i64 er] 83, .blk w.heap.size #[.slice none 0 0] 24] wp [.row w.heap.size 44 1 (.slice Ak k ck) k (cat css), .blk W3.heap.size #[.slice Ak k ck] 24, .blk W0.heap.size #[.slice (some ⟨bb, oo, none⟩) l.length c, .int .i64 sj, .int .i64 er] 83, .blk w.heap.size #[.slice none 0 0] 24] := K'
                          replace HT := Lib.hid T'
                          replace HH := Lib.hid (HH.out.move K')
                          replace HB := Lib.hid (HB.out.move (by decide) K')
                          clear T' K'
                          obtain ⟨r_p, q_p, r_rd, q_rd, r_res, q_res, -⟩ := HT.out.rules
                          have z_p : W3.heap.size < wp.heap.size := (HT.out.in_ 1 rfl rfl).2
                          have z_rd : W0.heap.size < wp.heap.size := (HT.out.in_ 2 rfl rfl).2
                          have z_res : w.heap.size < wp.heap.size := (HT.out.in_ 3 rfl rfl).2
                          go_wp2_with (at_builtin; go_loud (refine wpList_append_css rfl (.tmp 126) (.tmp 128) _ rfl (e := 44) (size := 1) (bytes := 24) Tryd.underlying22 infoSI rfl (by omega) HT.out 0 rfl rfl [Value.slice Aj j cj] 44 rfl rfl (by simp [Value.oneCell']) (by unfold maxLen; omega) (by omega) HT.out.base ?next))
                          case next =>
                            intro A9 c9 wg T' K' hs3
                            clear r_p q_p r_rd q_rd r_res q_res z_p z_rd z_res
                            replace T' : St w.heap.size w wg [.row w.heap.size 44 1 (.slice A9 (k + 1) c9) (k + 1) (cat (css ++ [[Value.slice Aj j cj]])), .blk W3.heap.size #[.slice Ak k ck] 24, .blk W0.heap.size #[.slice (some ⟨bb, oo, none⟩) l.length c, .int .i64 sj, .int .i64 er] 83, .blk w.heap.size #[.slice none 0 0] 24] := T'
                            replace K' : Keeps wp [.row w.heap.size 44 1 (.slice Ak k ck) k (cat css), .blk W3.heap.size #[.slice Ak k ck] 24, .blk W0.heap.size #[.slice (some ⟨bb, oo, none⟩) l.length c, .int .i64 sj, .int .i64 er] 83, .blk w.heap.size #[.slice none 0 0] 24] wg [.row w.heap.size 44 1 (.slice A9 (k + 1) c9) (k + 1) (cat (css ++ [[Value.slice Aj j cj]])), .blk W3.heap.size #[.slice Ak k ck] 24, .blk W0.heap.size #[.slice (some ⟨bb, oo, none⟩) l.length c, .int .i64 sj, .int .i64 er] 83, .blk w.heap.size #[.slice none 0 0] 24] := K'
                            replace HT := Lib.hid T'
                            replace HH := Lib.hid (HH.out.move K')
                            replace HB := Lib.hid (HB.out.move (by decide) K')
                            clear T' K'
                            replace hz5 : W6.heap.size ≤ wg.heap.size := by omega
                            obtain ⟨r_p, q_p, -⟩ := HT.out.rules
                            have z_p : W3.heap.size < wg.heap.size := (HT.out.in_ 1 rfl rfl).2
                            go_wp2_with fail
                            clear r_p q_p z_p
                            obtain ⟨T', K'⟩ := HT.out.put 1 0 (.slice A9 (k + 1) c9) rfl
                            replace T' : St w.heap.size w ((wg.setCell ⟨W3.heap.size, 0, none⟩ (.slice A9 (k + 1) c9))) [.row w.heap.size 44 1 (.slice A9 (k + 1) c9) (k + 1) (cat (css ++ [[Value.slice Aj j cj]])), .blk W3.heap.size #[.slice A9 (k + 1) c9] 24, .blk W0.heap.size #[.slice (some ⟨bb, oo, none⟩) l.length c, .int .i64 sj, .int .i64 er] 83, .blk w.heap.size #[.slice none 0 0] 24] := T'
                            replace K' : Keeps wg [.row w.heap.size 44 1 (.slice A9 (k + 1) c9) (k + 1) (cat (css ++ [[Value.slice Aj j cj]])), .blk W3.heap.size #[.slice Ak k ck] 24, .blk W0.heap.size #[.slice (some ⟨bb, oo, none⟩) l.length c, .int .i64 sj, .int .i64 er] 83, .blk w.heap.size #[.slice none 0 0] 24] ((wg.setCell ⟨W3.heap.size, 0, none⟩ (.slice A9 (k + 1) c9))) [.row w.heap.size 44 1 (.slice A9 (k + 1) c9) (k + 1) (cat (css ++ [[Value.slice Aj j cj]])), .blk W3.heap.size #[.slice A9 (k + 1) c9] 24, .blk W0.heap.size #[.slice (some ⟨bb, oo, none⟩) l.length c, .int .i64 sj, .int .i64 er] 83, .blk w.heap.size #[.slice none 0 0] 24] := K'
                            replace HT := Lib.hid T'
                            replace HH := Lib.hid (HH.out.move K')
                            replace HB := Lib.hid (HB.out.move (by decide) K')
                            clear T' K'
                            replace hz5 : W6.heap.size ≤ ((wg.setCell ⟨W3.heap.size, 0, none⟩ (.slice A9 (k + 1) c9))).heap.size := by simpa using hz5
                            generalize wg.setCell ⟨W3.heap.size, 0, none⟩ (.slice A9 (k + 1) c9) = wh at *
                            go_roundw
                            case rel =>
                              refine ⟨k + 1, sj, .slice A9 (k + 1) c9, er, css ++ [[Value.slice Aj j cj]], by go_num, by omega, by omega, hz5, HT.out, HB.out, ?_⟩
                              exact .inr ⟨her, HE.out⟩
                            case measure => simp [intOf]; omega
                  · have hE1 : kindsD N (I8 l0) = .error 5 := by rw [HE.out, show N - k = (N - k - 1) + 1 by omega, drop_none hsl]; rfl
                    replace HE := Lib.hid hE1
                    clear hE1
                    refine (one_end _ si _ _ c _ (HT.out.heap 2 rfl) (by omega) (by omega)).mono ?_
                    rintro en wb ⟨rfl, ho, hd⟩
                    clear r_p q_p r_rd q_rd r_res q_res z_p z_rd z_res
                    obtain ⟨T', K'⟩ := HT.out.only 2 rfl ho hd
                    replace T' : St w.heap.size w wb [.row w.heap.size 44 1 (.slice Ak k ck) k (cat css), .blk W3.heap.size #[.slice Ak k ck] 24, .blk W0.heap.size #[.slice (some ⟨bb, oo, none⟩) l.length c, .int .i64 si, .int .i64 5] 83, .blk w.heap.size #[.slice none 0 0] 24] := T'
                    replace K' : Keeps wq [.row w.heap.size 44 1 (.slice Ak k ck) k (cat css), .blk W3.heap.size #[.slice Ak k ck] 24, .blk W0.heap.size #[.slice (some ⟨bb, oo, none⟩) l.length c, .int .i64 si, .int .i64 0] 83, .blk w.heap.size #[.slice none 0 0] 24] wb [.row w.heap.size 44 1 (.slice Ak k ck) k (cat css), .blk W3.heap.size #[.slice Ak k ck] 24, .blk W0.heap.size #[.slice (some ⟨bb, oo, none⟩) l.length c, .int .i64 si, .int .i64 5] 83, .blk w.heap.size #[.slice none 0 0] 24] := K'
                    replace HT := Lib.hid T'
                    replace HB := Lib.hid (HB.out.move (by decide) K')
                    clear T' K'
                    replace hz5 : W6.heap.size ≤ wb.heap.size := Nat.le_trans hz5 ho.size
                    clear ho hd
                    obtain ⟨r_p, q_p, r_rd, q_rd, r_res, q_res, -⟩ := HT.out.rules
                    have z_p : W3.heap.size < wb.heap.size := (HT.out.in_ 1 rfl rfl).2
                    have z_rd : W0.heap.size < wb.heap.size := (HT.out.in_ 2 rfl rfl).2
                    have z_res : w.heap.size < wb.heap.size := (HT.out.in_ 3 rfl rfl).2
                    go_wp2_with fail
                    go_loopw [8, 10] (fun v i wr => v = .slice none 0 0 ∧ i = .int .i64 0 ∧ wr = wb) (fun _ _ _ => 0)
                    case atStart => exact ⟨rfl, rfl, rfl⟩
                    case round =>
                      obtain ⟨rfl, rfl, hwr⟩ := hrel
                      rw [hwr]
                      clear r_p q_p r_rd q_rd r_res q_res z_p z_rd z_res
                      obtain ⟨r_p, q_p, r_rd, q_rd, r_res, q_res, -⟩ := HT.out.rules
                      have z_p : W3.heap.size < wb.heap.size := (HT.out.in_ 1 rfl rfl).2
                      have z_rd : W0.heap.size < wb.heap.size := (HT.out.in_ 2 rfl rfl).2
                      have z_res : w.heap.size < wb.heap.size := (HT.out.in_ 3 rfl rfl).2
                      go_wp2_with (at_builtin; go_loud (refine wpList_append_css rfl (.tmp 126) (.tmp 128) _ rfl (e := 44) (size := 1) (bytes := 24) Tryd.underlying22 infoSI rfl (by omega) HT.out 0 rfl rfl [Value.slice none 0 0] 44 rfl rfl (by simp [Value.oneCell']) (by unfold maxLen; omega) (by omega) HT.out.base ?next))
                      case next =>
                        intro A9 c9 wg T' K' hs3
                        clear r_p q_p r_rd q_rd r_res q_res z_p z_rd z_res
                        replace T' : St w.heap.size w wg [.row w.heap.size 44 1 (.slice A9 (k + 1) c9) (k + 1) (cat (css ++ [[Value.slice none 0 0]])), .blk W3.heap.size #[.slice Ak k ck] 24, .blk W0.heap.size #[.slice (some ⟨bb, oo, none⟩) l.length c, .int .i64 si, .int .i64 5] 83, .blk w.heap.size #[.slice none 0 0] 24] := T'
                        replace K' : Keeps wb [.row w.heap.size 44 1 (.slice Ak k ck) k (cat css), .blk W3.heap.size #[.slice Ak k ck] 24, .blk W0.heap.size #[.slice (some ⟨bb, oo, none⟩) l.length c, .int .i64 si, .int .i64 5] 83, .blk w.heap.size #[.slice none 0 0] 24] wg [.row w.heap.size 44 1 (.slice A9 (k + 1) c9) (k + 1) (cat (css ++ [[Value.slice none 0 0]])), .blk W3.heap.size #[.slice Ak k ck] 24, .blk W0.heap.size #[.slice (some ⟨bb, oo, none⟩) l.length c, .int .i64 si, .int .i64 5] 83, .blk w.heap.size #[.slice none 0 0] 24] := K'
                        replace HT := Lib.hid T'
                        replace HB := Lib.hid (HB.out.move (by decide) K')
                        clear T' K'
                        replace hz5 : W6.heap.size ≤ wg.heap.size := by omega
                        obtain ⟨r_p, q_p, -⟩ := HT.out.rules
                        have z_p : W3.heap.size < wg.heap.size := (HT.out.in_ 1 rfl rfl).2
                        go_wp2_with fail
                        clear r_p q_p z_p
                        obtain ⟨T', K'⟩ := HT.out.put 1 0 (.slice A9 (k + 1) c9) rfl
                        replace T' : St w.heap.size w ((wg.setCell ⟨W3.heap.size, 0, none⟩ (.slice A9 (k + 1) c9))) [.row w.heap.size 44 1 (.slice A9 (k + 1) c9) (k + 1) (cat (css ++ [[Value.slice none 0 0]])), .blk W3.heap.size #[.slice A9 (k + 1) c9] 24, .blk W0.heap.size #[.slice (some ⟨bb, oo, none⟩) l.length c, .int .i64 si, .int .i64 5] 83, .blk w.heap.size #[.slice none 0 0] 24] := T'
                        replace K' : Keeps wg [.row w.heap.size 44 1 (.slice A9 (k + 1) c9) (k + 1) (cat (css ++ [[Value.slice none 0 0]])), .blk W3.heap.size #[.slice Ak k ck] 24, .blk W0.heap.size #[.slice (some ⟨bb, oo, none⟩) l.length c, .int .i64 si, .int .i64 5] 83, .blk w.heap.size #[.slice none 0 0] 24] ((wg.setCell ⟨W3.heap.size, 0, none⟩ (.slice A9 (k + 1) c9))) [.row w.heap.size 44 1 (.slice A9 (k + 1) c9) (k + 1) (cat (css ++ [[Value.slice none 0 0]])), .blk W3.heap.size #[.slice A9 (k + 1) c9] 24, .blk W0.heap.size #[.slice (some ⟨bb, oo, none⟩) l.length c, .int .i64 si, .int .i64 5] 83, .blk w.heap.size #[.slice none 0 0] 24] := K'
                        replace HT := Lib.hid T'
                        replace HB := Lib.hid (HB.out.move (by decide) K')
                        clear T' K'
                        replace hz5 : W6.heap.size ≤ ((wg.setCell ⟨W3.heap.size, 0, none⟩ (.slice A9 (k + 1) c9))).heap.size := by simpa using hz5
                        generalize wg.setCell ⟨W3.heap.size, 0, none⟩ (.slice A9 (k + 1) c9) = wh at *
                        go_roundw
                        case rel =>
                          refine ⟨k + 1, si, .slice A9 (k + 1) c9, 5, css ++ [[Value.slice none 0 0]], by go_num, by omega, by omega, hz5, HT.out, HB.out, ?_⟩
                          exact .inr ⟨by decide, HE.out⟩
                        case measure => simp [intOf]; omega
                · have i2 : ¬ (k : Int) < (N : Int) := by omega
                  have hkN : k = N := by omega
                  have hE1 : kindsD N (I8 l0) = .ok (ps, I8 (l.drop si)) := by rw [HE.out, hkN, Nat.sub_self]; show Except.ok (ps ++ [], I8 (l.drop si)) = _; rw [List.append_nil]
                  subst hps
                  have HF := Lib.hid (HEnd.out _ hE1)
                  clear hE1 HE hkN
                  by_cases hsl : si < l.length
                  · obtain ⟨x2, hx2⟩ : ∃ x2, l[si]? = some x2 := ⟨_, List.getElem?_eq_getElem hsl⟩
                    have HE := Lib.hid (HF.out.trans (show endD (.ok (ps, I8 (l.drop si))) = .error 4 by rw [drop_at hx2]; exact endD_more ps x2 _))
                    clear hx2
                    have i4 : (si : Int) < (l.length : Int) := by omega
                    obtain ⟨r_p, q_p, r_rd, q_rd, r_res, q_res, -⟩ := HT.out.rules
                    have z_p : W3.heap.size < wq.heap.size := (HT.out.in_ 1 rfl rfl).2
                    have z_rd : W0.heap.size < wq.heap.size := (HT.out.in_ 2 rfl rfl).2
                    have z_res : w.heap.size < wq.heap.size := (HT.out.in_ 3 rfl rfl).2
                    go_upto_region 33 with fail
                    clear r_p q_p r_rd q_rd r_res q_res z_p z_rd z_res
                    obtain ⟨T', K'⟩ := HT.out.put 2 2 (.int .i64 4) rfl
                    replace T' : St w.heap.size w ((wq.setCell ⟨W0.heap.size, 2, none⟩ (.int .i64 4))) [.row w.heap.size 44 1 (.slice Ak ps.length ck) ps.length (cat css), .blk W3.heap.size #[.slice Ak ps.length ck] 24, .blk W0.heap.size #[.slice (some ⟨bb, oo, none⟩) l.length c, .int .i64 si, .int .i64 4] 83, .blk w.heap.size #[.slice none 0 0] 24] := T'
                    replace K' : Keeps wq [.row w.heap.size 44 1 (.slice Ak ps.length ck) ps.length (cat css), .blk W3.heap.size #[.slice Ak ps.length ck] 24, .blk W0.heap.size #[.slice (some ⟨bb, oo, none⟩) l.length c, .int .i64 si, .int .i64 0] 83, .blk w.heap.size #[.slice none 0 0] 24] ((wq.setCell ⟨W0.heap.size, 2, none⟩ (.int .i64 4))) [.row w.heap.size 44 1 (.slice Ak ps.length ck) ps.length (cat css), .blk W3.heap.size #[.slice Ak ps.length ck] 24, .blk W0.heap.size #[.slice (some ⟨bb, oo, none⟩) l.length c, .int .i64 si, .int .i64 4] 83, .blk w.heap.size #[.slice none 0 0] 24] := K'
                    replace HT := Lib.hid T'
                    replace HB := Lib.hid (HB.out.move (by decide) K')
                    replace HH := Lib.hid (HH.out.move K')
                    clear T' K'
                    replace hz5 : W6.heap.size ≤ ((wq.setCell ⟨W0.heap.size, 2, none⟩ (.int .i64 4))).heap.size := by simpa using hz5
                    generalize wq.setCell ⟨W0.heap.size, 2, none⟩ (.int .i64 4) = wd at *
                    obtain ⟨r_p, q_p, r_rd, q_rd, r_res, q_res, -⟩ := HT.out.rules
                    have z_p : W3.heap.size < wd.heap.size := (HT.out.in_ 1 rfl rfl).2
                    have z_rd : W0.heap.size < wd.heap.size := (HT.out.in_ 2 rfl rfl).2
                    have z_res : w.heap.size < wd.heap.size := (HT.out.in_ 3 rfl rfl).2
                    go_wp2_with fail
                    refine wp_region_plan [.still [0, 1, 2, 3, 4], .loud 5 [1, 2, 3, 4], .still [6]] (by kernel_rfl) (by kernel_rfl) ?_
                    refine plan_still ?_
                    simp only [pick, List.getElem?_toArray, List.getElem?_cons_succ, List.getElem?_cons_zero]
                    repeat still_step
                    refine wpStill_nil ?_
                    refine plan_loud ?_
                    simp only [pick, List.getElem?_toArray, List.getElem?_cons_succ, List.getElem?_cons_zero]
                    go_wp2_with fail
                    clear r_p q_p r_rd q_rd r_res q_res z_p z_rd z_res
                    obtain ⟨T', K'⟩ := HT.out.put 3 0 (.slice none 0 0) rfl
                    replace T' : St w.heap.size w ((wd.setCell ⟨w.heap.size, 0, none⟩ (.slice none 0 0))) [.row w.heap.size 44 1 (.slice Ak ps.length ck) ps.length (cat css), .blk W3.heap.size #[.slice Ak ps.length ck] 24, .blk W0.heap.size #[.slice (some ⟨bb, oo, none⟩) l.length c, .int .i64 si, .int .i64 4] 83, .blk w.heap.size #[.slice none 0 0] 24] := T'
                    replace K' : Keeps wd [.row w.heap.size 44 1 (.slice Ak ps.length ck) ps.length (cat css), .blk W3.heap.size #[.slice Ak ps.length ck] 24, .blk W0.heap.size #[.slice (some ⟨bb, oo, none⟩) l.length c, .int .i64 si, .int .i64 4] 83, .blk w.heap.size #[.slice none 0 0] 24] ((wd.setCell ⟨w.heap.size, 0, none⟩ (.slice none 0 0))) [.row w.heap.size 44 1 (.slice Ak ps.length ck) ps.length (cat css), .blk W3.heap.size #[.slice Ak ps.length ck] 24, .blk W0.heap.size #[.slice (some ⟨bb, oo, none⟩) l.length c, .int .i64 si, .int .i64 4] 83, .blk w.heap.size #[.slice none 0 0] 24] := K'
                    replace HT := Lib.hid T'
                    replace HB := Lib.hid (HB.out.move (by decide) K')
                    replace HH := Lib.hid (HH.out.move K')
                    clear T' K'
                    replace hz5 : W6.heap.size ≤ ((wd.setCell ⟨w.heap.size, 0, none⟩ (.slice none 0 0))).heap.size := by simpa using hz5
                    generalize wd.setCell ⟨w.heap.size, 0, none⟩ (.slice none 0 0) = we at *
                    obtain ⟨-, -, r_rd, q_rd, -⟩ := HT.out.rules
                    have z_rd : W0.heap.size < we.heap.size := (HT.out.in_ 2 rfl rfl).2
                    refine ⟨?_, ?_⟩
                    · simp only [Again, pick, List.getElem?_toArray, List.getElem?_cons_succ, List.getElem?_cons_zero]
                      refine ⟨?_, ?_, ?_, ?_, trivial⟩
                      all_goals (still_step; exact wpStill_nil rfl)
                    refine plan_still ?_
                    simp only [pick, List.getElem?_toArray, List.getElem?_cons_succ, List.getElem?_cons_zero]
                    repeat still_step
                    refine wpStill_nil ?_
                    refine plan_end (NoPanic.normal ?_)
                    obtain ⟨T', K'⟩ := HT.out.drew'
                    replace T' : St w.heap.size w we.drew [.row w.heap.size 44 1 (.slice Ak ps.length ck) ps.length (cat css), .blk W3.heap.size #[.slice Ak ps.length ck] 24, .blk W0.heap.size #[.slice (some ⟨bb, oo, none⟩) l.length c, .int .i64 si, .int .i64 4] 83, .blk w.heap.size #[.slice none 0 0] 24] := T'
                    replace K' : Keeps we [.row w.heap.size 44 1 (.slice Ak ps.length ck) ps.length (cat css), .blk W3.heap.size #[.slice Ak ps.length ck] 24, .blk W0.heap.size #[.slice (some ⟨bb, oo, none⟩) l.length c, .int .i64 si, .int .i64 4] 83, .blk w.heap.size #[.slice none 0 0] 24] we.drew [.row w.heap.size 44 1 (.slice Ak ps.length ck) ps.length (cat css), .blk W3.heap.size #[.slice Ak ps.length ck] 24, .blk W0.heap.size #[.slice (some ⟨bb, oo, none⟩) l.length c, .int .i64 si, .int .i64 4] 83, .blk w.heap.size #[.slice none 0 0] 24] := K'
                    replace HT := Lib.hid T'
                    replace HB := Lib.hid (HB.out.move (by decide) K')
                    replace HH := Lib.hid (HH.out.move K')
                    clear T' K'
                    replace hz5 : W6.heap.size ≤ we.drew.heap.size := hz5
                    clear r_rd q_rd z_rd
                    obtain ⟨-, -, -, -, r_res, q_res, -⟩ := HT.out.rules
                    have z_res : w.heap.size < we.drew.heap.size := (HT.out.in_ 3 rfl rfl).2
                    go_wp2_with fail
                    refine bodyPost_ret (v := .tuple #[.agg #[.slice none 0 0], .int .i64 4]) (by simp [results, Tryd.results20, go_sem, r_res]) rfl ?_
                    exact DecD.bad HE.out HT.out.below
                  · have hdr := drop_none hsl
                    have i4 : ¬ (si : Int) < (l.length : Int) := by omega
                    have hHs : ps.length * 24 ≤ 140737488355328 := by omega
                    obtain ⟨r_p, q_p, r_rd, q_rd, r_res, q_res, -⟩ := HT.out.rules
                    have z_p : W3.heap.size < wq.heap.size := (HT.out.in_ 1 rfl rfl).2
                    have z_rd : W0.heap.size < wq.heap.size := (HT.out.in_ 2 rfl rfl).2
                    have z_res : w.heap.size < wq.heap.size := (HT.out.in_ 3 rfl rfl).2
                    obtain ⟨f, hf⟩ : ∃ f, progF ps = f := ⟨_, rfl⟩
                    have G := Lib.hid (fault_any _ Ak ck ps _ (HT.out.rdRow (E := pgE) (n := w.heap.size) 0 rfl rfl rfl HH.out hHs (Nat.le_refl _) (by decide)))
                    rw [hf] at G
                    rw [hdr] at HF
                    by_cases hf0 : f = 0
                    · subst hf0
                      have HE := Lib.hid (HF.out.trans (endD_ok hf))
                      clear HF
                      go_wp2_with fail
                      refine G.out.mono ?_
                      rintro en wc ⟨rfl, hb⟩
                      clear r_p q_p r_rd q_rd r_res q_res z_p z_rd z_res
                      obtain ⟨T', K'⟩ := HT.out.call hb
                      replace T' : St w.heap.size w wc [.row w.heap.size 44 1 (.slice Ak ps.length ck) ps.length (cat css), .blk W3.heap.size #[.slice Ak ps.length ck] 24, .blk W0.heap.size #[.slice (some ⟨bb, oo, none⟩) l.length c, .int .i64 si, .int .i64 0] 83, .blk w.heap.size #[.slice none 0 0] 24] := T'
                      replace K' : Keeps wq [.row w.heap.size 44 1 (.slice Ak ps.length ck) ps.length (cat css), .blk W3.heap.size #[.slice Ak ps.length ck] 24, .blk W0.heap.size #[.slice (some ⟨bb, oo, none⟩) l.length c, .int .i64 si, .int .i64 0] 83, .blk w.heap.size #[.slice none 0 0] 24] wc [.row w.heap.size 44 1 (.slice Ak ps.length ck) ps.length (cat css), .blk W3.heap.size #[.slice Ak ps.length ck] 24, .blk W0.heap.size #[.slice (some ⟨bb, oo, none⟩) l.length c, .int .i64 si, .int .i64 0] 83, .blk w.heap.size #[.slice none 0 0] 24] := K'
                      replace HT := Lib.hid T'
                      replace HB := Lib.hid (HB.out.move (by decide) K')
                      replace HH := Lib.hid (HH.out.move K')
                      clear T' K'
                      replace hz5 : W6.heap.size ≤ wc.heap.size := Nat.le_trans hz5 hb.size
                      clear hb
                      obtain ⟨r_p, q_p, r_rd, q_rd, r_res, q_res, -⟩ := HT.out.rules
                      have z_p : W3.heap.size < wc.heap.size := (HT.out.in_ 1 rfl rfl).2
                      have z_rd : W0.heap.size < wc.heap.size := (HT.out.in_ 2 rfl rfl).2
                      have z_res : w.heap.size < wc.heap.size := (HT.out.in_ 3 rfl rfl).2
                      go_upto_region 35 with fail
                      clear r_p q_p r_rd q_rd r_res q_res z_p z_rd z_res
                      obtain ⟨T', K'⟩ := HT.out.put 2 2 (.int .i64 0) rfl
                      replace T' : St w.heap.size w ((wc.setCell ⟨W0.heap.size, 2, none⟩ (.int .i64 0))) [.row w.heap.size 44 1 (.slice Ak ps.length ck) ps.length (cat css), .blk W3.heap.size #[.slice Ak ps.length ck] 24, .blk W0.heap.size #[.slice (some ⟨bb, oo, none⟩) l.length c, .int .i64 si, .int .i64 0] 83, .blk w.heap.size #[.slice none 0 0] 24] := T'
                      replace K' : Keeps wc [.row w.heap.size 44 1 (.slice Ak ps.length ck) ps.length (cat css), .blk W3.heap.size #[.slice Ak ps.length ck] 24, .blk W0.heap.size #[.slice (some ⟨bb, oo, none⟩) l.length c, .int .i64 si, .int .i64 0] 83, .blk w.heap.size #[.slice none 0 0] 24] ((wc.setCell ⟨W0.heap.size, 2, none⟩ (.int .i64 0))) [.row w.heap.size 44 1 (.slice Ak ps.length ck) ps.length (cat css), .blk W3.heap.size #[.slice Ak ps.length ck] 24, .blk W0.heap.size #[.slice (some ⟨bb, oo, none⟩) l.length c, .int .i64 si, .int .i64 0] 83, .blk w.heap.size #[.slice none 0 0] 24] := K'
                      replace HT := Lib.hid T'
                      replace HB := Lib.hid (HB.out.move (by decide) K')
                      replace HH := Lib.hid (HH.out.move K')
                      clear T' K'
                      replace hz5 : W6.heap.size ≤ ((wc.setCell ⟨W0.heap.size, 2, none⟩ (.int .i64 0))).heap.size := by simpa using hz5
                      generalize wc.setCell ⟨W0.heap.size, 2, none⟩ (.int .i64 0) = wd at *
                      obtain ⟨r_p, q_p, r_rd, q_rd, r_res, q_res, -⟩ := HT.out.rules
                      have z_p : W3.heap.size < wd.heap.size := (HT.out.in_ 1 rfl rfl).2
                      have z_rd : W0.heap.size < wd.heap.size := (HT.out.in_ 2 rfl rfl).2
                      have z_res : w.heap.size < wd.heap.size := (HT.out.in_ 3 rfl rfl).2
                      go_wp2_with fail
                      clear r_p q_p r_rd q_rd r_res q_res z_p z_rd z_res
                      obtain ⟨T', K'⟩ := HT.out.put 3 0 (.slice Ak ps.length ck) rfl
                      replace T' : St w.heap.size w ((wd.setCell ⟨w.heap.size, 0, none⟩ (.slice Ak ps.length ck))) [.row w.heap.size 44 1 (.slice Ak ps.length ck) ps.length (cat css), .blk W3.heap.size #[.slice Ak ps.length ck] 24, .blk W0.heap.size #[.slice (some ⟨bb, oo, none⟩) l.length c, .int .i64 si, .int .i64 0] 83, .blk w.heap.size #[.slice Ak ps.length ck] 24] := T'
                      replace K' : Keeps wd [.row w.heap.size 44 1 (.slice Ak ps.length ck) ps.length (cat css), .blk W3.heap.size #[.slice Ak ps.length ck] 24, .blk W0.heap.size #[.slice (some ⟨bb, oo, none⟩) l.length c, .int .i64 si, .int .i64 0] 83, .blk w.heap.size #[.slice none 0 0] 24] ((wd.setCell ⟨w.heap.size, 0, none⟩ (.slice Ak ps.length ck))) [.row w.heap.size 44 1 (.slice Ak ps.length ck) ps.length (cat css), .blk W3.heap.size #[.slice Ak ps.length ck] 24, .blk W0.heap.size #[.slice (some ⟨bb, oo, none⟩) l.length c, .int .i64 si, .int .i64 0] 83, .blk w.heap.size #[.slice Ak ps.length ck] 24] := K'
                      replace HT := Lib.hid T'
                      replace HB := Lib.hid (HB.out.move (by decide) K')
                      replace HH := Lib.hid (HH.out.move K')
                      clear T' K'
                      replace hz5 : W6.heap.size ≤ ((wd.setCell ⟨w.heap.size, 0, none⟩ (.slice Ak ps.length ck))).heap.size := by simpa using hz5
                      generalize wd.setCell ⟨w.heap.size, 0, none⟩ (.slice Ak ps.length ck) = we at *
                      obtain ⟨-, -, -, -, r_res, q_res, -⟩ := HT.out.rules
                      have z_res : w.heap.size < we.heap.size := (HT.out.in_ 3 rfl rfl).2
                      refine bodyPost_ret (v := .tuple #[.agg #[.slice Ak ps.length ck], .int .i64 0]) (by simp [results, Tryd.results20, go_sem, r_res]) rfl ?_
                      rw [HE.out]
                      exact ⟨Ak, ck, rfl, HT.out.rdRow (E := pgE) (n := w.heap.size) 0 rfl rfl rfl HH.out hHs (Nat.le_refl _) (by decide), HT.out.below⟩
                    · have hf1 : (f != 0) = true := by simpa using hf0
                      have HE := Lib.hid (HF.out.trans (endD_bad hf hf0))
                      clear HF
                      go_wp2_with fail
                      refine G.out.mono ?_
                      rintro en wc ⟨rfl, hb⟩
                      clear r_p q_p r_rd q_rd r_res q_res z_p z_rd z_res
                      obtain ⟨T', K'⟩ := HT.out.call hb
                      replace T' : St w.heap.size w wc [.row w.heap.size 44 1 (.slice Ak ps.length ck) ps.length (cat css), .blk W3.heap.size #[.slice Ak ps.length ck] 24, .blk W0.heap.size #[.slice (some ⟨bb, oo, none⟩) l.length c, .int .i64 si, .int .i64 0] 83, .blk w.heap.size #[.slice none 0 0] 24] := T'
                      replace K' : Keeps wq [.row w.heap.size 44 1 (.slice Ak ps.length ck) ps.length (cat css), .blk W3.heap.size #[.slice Ak ps.length ck] 24, .blk W0.heap.size #[.slice (some ⟨bb, oo, none⟩) l.length c, .int .i64 si, .int .i64 0] 83, .blk w.heap.size #[.slice none 0 0] 24] wc [.row w.heap.size 44 1 (.slice Ak ps.length ck) ps.length (cat css), .blk W3.heap.size #[.slice Ak ps.length ck] 24, .blk W0.heap.size #[.slice (some ⟨bb, oo, none⟩) l.length c, .int .i64 si, .int .i64 0] 83, .blk w.heap.size #[.slice none 0 0] 24] := K'
                      replace HT := Lib.hid T'
                      replace HB := Lib.hid (HB.out.move (by decide) K')
                      replace HH := Lib.hid (HH.out.move K')
                      clear T' K'
                      replace hz5 : W6.heap.size ≤ wc.heap.size := Nat.le_trans hz5 hb.size
                      clear hb
                      obtain ⟨r_p, q_p, r_rd, q_rd, r_res, q_res, -⟩ := HT.out.rules
                      have z_p : W3.heap.size < wc.heap.size := (HT.out.in_ 1 rfl rfl).2
                      have z_rd : W0.heap.size < wc.heap.size := (HT.out.in_ 2 rfl rfl).2
                      have z_res : w.heap.size < wc.heap.size := (HT.out.in_ 3 rfl rfl).2
                      go_upto_region 35 with fail
                      clear r_p q_p r_rd q_rd r_res q_res z_p z_rd z_res
                      obtain ⟨T', K'⟩ := HT.out.put 2 2 (.int .i64 f) rfl
                      replace T' : St w.heap.size w ((wc.setCell ⟨W0.heap.size, 2, none⟩ (.int .i64 f))) [.row w.heap.size 44 1 (.slice Ak ps.length ck) ps.length (cat css), .blk W3.heap.size #[.slice Ak ps.length ck] 24, .blk W0.heap.size #[.slice (some ⟨bb, oo, none⟩) l.length c, .int .i64 si, .int .i64 f] 83, .blk w.heap.size #[.slice none 0 0] 24] := T'
                      replace K' : Keeps wc [.row w.heap.size 44 1 (.slice Ak ps.length ck) ps.length (cat css), .blk W3.heap.size #[.slice Ak ps.length ck] 24, .blk W0.heap.size #[.slice (some ⟨bb, oo, none⟩) l.length c, .int .i64 si, .int .i64 0] 83, .blk w.heap.size #[.slice none 0 0] 24] ((wc.setCell ⟨W0.heap.size, 2, none⟩ (.int .i64 f))) [.row w.heap.size 44 1 (.slice Ak ps.length ck) ps.length (cat css), .blk W3.heap.size #[.slice Ak ps.length ck] 24, .blk W0.heap.size #[.slice (some ⟨bb, oo, none⟩) l.length c, .int .i64 si, .int .i64 f] 83, .blk w.heap.size #[.slice none 0 0] 24] := K'
                      replace HT := Lib.hid T'
                      replace HB := Lib.hid (HB.out.move (by decide) K')
                      replace HH := Lib.hid (HH.out.move K')
                      clear T' K'
                      replace hz5 : W6.heap.size ≤ ((wc.setCell ⟨W0.heap.size, 2, none⟩ (.int .i64 f))).heap.size := by simpa using hz5
                      generalize wc.setCell ⟨W0.heap.size, 2, none⟩ (.int .i64 f) = wd at *
                      obtain ⟨r_p, q_p, r_rd, q_rd, r_res, q_res, -⟩ := HT.out.rules
                      have z_p : W3.heap.size < wd.heap.size := (HT.out.in_ 1 rfl rfl).2
                      have z_rd : W0.heap.size < wd.heap.size := (HT.out.in_ 2 rfl rfl).2
                      have z_res : w.heap.size < wd.heap.size := (HT.out.in_ 3 rfl rfl).2
                      go_wp2_with fail
                      refine wp_region_plan [.still [0, 1, 2, 3, 4], .loud 5 [1, 2, 3, 4], .still [6]] (by kernel_rfl) (by kernel_rfl) ?_
                      refine plan_still ?_
                      simp only [pick, List.getElem?_toArray, List.getElem?_cons_succ, List.getElem?_cons_zero]
                      repeat still_step
                      refine wpStill_nil ?_
                      refine plan_loud ?_
                      simp only [pick, List.getElem?_toArray, List.getElem?_cons_succ, List.getElem?_cons_zero]
                      go_wp2_with fail
                      clear r_p q_p r_rd q_rd r_res q_res z_p z_rd z_res
                      obtain ⟨T', K'⟩ := HT.out.put 3 0 (.slice none 0 0) rfl
                      replace T' : St w.heap.size w ((wd.setCell ⟨w.heap.size, 0, none⟩ (.slice none 0 0))) [.row w.heap.size 44 1 (.slice Ak ps.length ck) ps.length (cat css), .blk W3.heap.size #[.slice Ak ps.length ck] 24, .blk W0.heap.size #[.slice (some ⟨bb, oo, none⟩) l.length c, .int .i64 si, .int .i64 f] 83, .blk w.heap.size #[.slice none 0 0] 24] := T'
                      replace K' : Keeps wd [.row w.heap.size 44 1 (.slice Ak ps.length ck) ps.length (cat css), .blk W3.heap.size #[.slice Ak ps.length ck] 24, .blk W0.heap.size #[.slice (some ⟨bb, oo, none⟩) l.length c, .int .i64 si, .int .i64 f] 83, .blk w.heap.size #[.slice none 0 0] 24] ((wd.setCell ⟨w.heap.size, 0, none⟩ (.slice none 0 0))) [.row w.heap.size 44 1 (.slice Ak ps.length ck) ps.length (cat css), .blk W3.heap.size #[.slice Ak ps.length ck] 24, .blk W0.heap.size #[.slice (some ⟨bb, oo, none⟩) l.length c, .int .i64 si, .int .i64 f] 83, .blk w.heap.size #[.slice none 0 0] 24] := K'
                      replace HT := Lib.hid T'
                      replace HB := Lib.hid (HB.out.move (by decide) K')
                      replace HH := Lib.hid (HH.out.move K')
                      clear T' K'
                      replace hz5 : W6.heap.size ≤ ((wd.setCell ⟨w.heap.size, 0, none⟩ (.slice none 0 0))).heap.size := by simpa using hz5
                      generalize wd.setCell ⟨w.heap.size, 0, none⟩ (.slice none 0 0) = we at *
                      obtain ⟨-, -, r_rd, q_rd, -⟩ := HT.out.rules
                      have z_rd : W0.heap.size < we.heap.size := (HT.out.in_ 2 rfl rfl).2
                      refine ⟨?_, ?_⟩
                      · simp only [Again, pick, List.getElem?_toArray, List.getElem?_cons_succ, List.getElem?_cons_zero]
                        refine ⟨?_, ?_, ?_, ?_, trivial⟩
                        all_goals (still_step; exact wpStill_nil rfl)
                      refine plan_still ?_
                      simp only [pick, List.getElem?_toArray, List.getElem?_cons_succ, List.getElem?_cons_zero]
                      repeat still_step
                      refine wpStill_nil ?_
                      refine plan_end (NoPanic.normal ?_)
                      obtain ⟨T', K'⟩ := HT.out.drew'
                      replace T' : St w.heap.size w we.drew [.row w.heap.size 44 1 (.slice Ak ps.length ck) ps.length (cat css), .blk W3.heap.size #[.slice Ak ps.length ck] 24, .blk W0.heap.size #[.slice (some ⟨bb, oo, none⟩) l.length c, .int .i64 si, .int .i64 f] 83, .blk w.heap.size #[.slice none 0 0] 24] := T'
                      replace K' : Keeps we [.row w.heap.size 44 1 (.slice Ak ps.length ck) ps.length (cat css), .blk W3.heap.size #[.slice Ak ps.length ck] 24, .blk W0.heap.size #[.slice (some ⟨bb, oo, none⟩) l.length c, .int .i64 si, .int .i64 f] 83, .blk w.heap.size #[.slice none 0 0] 24] we.drew [.row w.heap.size 44 1 (.slice Ak ps.length ck) ps.length (cat css), .blk W3.heap.size #[.slice Ak ps.length ck] 24, .blk W0.heap.size #[.slice (some ⟨bb, oo, none⟩) l.length c, .int .i64 si, .int .i64 f] 83, .blk w.heap.size #[.slice none 0 0] 24] := K'
                      replace HT := Lib.hid T'
                      replace HB := Lib.hid (HB.out.move (by decide) K')
                      replace HH := Lib.hid (HH.out.move K')
                      clear T' K'
                      replace hz5 : W6.heap.size ≤ we.drew.heap.size := hz5
                      clear r_rd q_rd z_rd
                      obtain ⟨-, -, -, -, r_res, q_res, -⟩ := HT.out.rules
                      have z_res : w.heap.size < we.drew.heap.size := (HT.out.in_ 3 rfl rfl).2
                      go_wp2_with fail
                      refine bodyPost_ret (v := .tuple #[.agg #[.slice none 0 0], .int .i64 f]) (by simp [results, Tryd.results20, go_sem, r_res]) rfl ?_
                      exact DecD.bad HE.out HT.out.below
              · have her0 : (er == 0) = false := by simpa using her
                have her1 : (er != 0) = true := by simpa using her
                have HE := Lib.hid (HEnd.out _ hE)
                clear hE
                obtain ⟨r_p, q_p, r_rd, q_rd, r_res, q_res, -⟩ := HT.out.rules
                have z_p : W3.heap.size < wq.heap.size := (HT.out.in_ 1 rfl rfl).2
                have z_rd : W0.heap.size < wq.heap.size := (HT.out.in_ 2 rfl rfl).2
                have z_res : w.heap.size < wq.heap.size := (HT.out.in_ 3 rfl rfl).2
                by_cases hlt : k < N
                · have i2 : (k : Int) < (N : Int) := by omega
                  go_wp2_with fail
                  refine wp_region_plan [.still [0, 1, 2, 3, 4], .loud 5 [1, 2, 3, 4], .still [6]] (by kernel_rfl) (by kernel_rfl) ?_
                  refine plan_still ?_
                  simp only [pick, List.getElem?_toArray, List.getElem?_cons_succ, List.getElem?_cons_zero]
                  repeat still_step
                  refine wpStill_nil ?_
                  refine plan_loud ?_
                  simp only [pick, List.getElem?_toArray, List.getElem?_cons_succ, List.getElem?_cons_zero]
                  go_wp2_with fail
                  clear r_p q_p r_rd q_rd r_res q_res z_p z_rd z_res
                  obtain ⟨T', K'⟩ := HT.out.put 3 0 (.slice none 0 0) rfl
                  replace T' : St w.heap.size w ((wq.setCell ⟨w.heap.size, 0, none⟩ (.slice none 0 0))) [.row w.heap.size 44 1 (.slice Ak k ck) k (cat css), .blk W3.heap.size #[.slice Ak k ck] 24, .blk W0.heap.size #[.slice (some ⟨bb, oo, none⟩) l.length c, .int .i64 si, .int .i64 er] 83, .blk w.heap.size #[.slice none 0 0] 24] := T'
                  replace K' : Keeps wq [.row w.heap.size 44 1 (.slice Ak k ck) k (cat css), .blk W3.heap.size #[.slice Ak k ck] 24, .blk W0.heap.size #[.slice (some ⟨bb, oo, none⟩) l.length c, .int .i64 si, .int .i64 er] 83, .blk w.heap.size #[.slice none 0 0] 24] ((wq.setCell ⟨w.heap.size, 0, none⟩ (.slice none 0 0))) [.row w.heap.size 44 1 (.slice Ak k ck) k (cat css), .blk W3.heap.size #[.slice Ak k ck] 24, .blk W0.heap.size #[.slice (some ⟨bb, oo, none⟩) l.length c, .int .i64 si, .int .i64 er] 83, .blk w.heap.size #[.slice none 0 0] 24] := K'
                  replace HT := Lib.hid T'
                  replace HB := Lib.hid (HB.out.move (by decide) K')
                  clear T' K'
                  replace hz5 : W6.heap.size ≤ ((wq.setCell ⟨w.heap.size, 0, none⟩ (.slice none 0 0))).heap.size := by simpa using hz5
                  generalize wq.setCell ⟨w.heap.size, 0, none⟩ (.slice none 0 0) = we at *
                  obtain ⟨-, -, r_rd, q_rd, -⟩ := HT.out.rules
                  have z_rd : W0.heap.size < we.heap.size := (HT.out.in_ 2 rfl rfl).2
                  refine ⟨?_, ?_⟩
                  · simp only [Again, pick, List.getElem?_toArray, List.getElem?_cons_succ, List.getElem?_cons_zero]
                    refine ⟨?_, ?_, ?_, ?_, trivial⟩
                    all_goals (still_step; exact wpStill_nil rfl)
                  refine plan_still ?_
                  simp only [pick, List.getElem?_toArray, List.getElem?_cons_succ, List.getElem?_cons_zero]
                  repeat still_step
                  refine wpStill_nil ?_
                  refine plan_end (NoPanic.normal ?_)
                  obtain ⟨T', K'⟩ := HT.out.drew'
                  replace T' : St w.heap.size w we.drew [.row w.heap.size 44 1 (.slice Ak k ck) k (cat css), .blk W3.heap.size #[.slice Ak k ck] 24, .blk W0.heap.size #[.slice (some ⟨bb, oo, none⟩) l.length c, .int .i64 si, .int .i64 er] 83, .blk w.heap.size #[.slice none 0 0] 24] := T'
                  replace K' : Keeps we [.row w.heap.size 44 1 (.slice Ak k ck) k (cat css), .blk W3.heap.size #[.slice Ak k ck] 24, .blk W0.heap.size #[.slice (some ⟨bb, oo, none⟩) l.length c, .int .i64 si, .int .i64 er] 83, .blk w.heap.size #[.slice none 0 0] 24] we.drew [.row w.heap.size 44 1 (.slice Ak k ck) k (cat css), .blk W3.heap.size #[.slice Ak k ck] 24, .blk W0.heap.size #[.slice (some ⟨bb, oo, none⟩) l.length c, .int .i64 si, .int .i64 er] 83, .blk w.heap.size #[.slice none 0 0] 24] := K'
                  replace HT := Lib.hid T'
                  replace HB := Lib.hid (HB.out.move (by decide) K')
                  clear T' K'
                  replace hz5 : W6.heap.size ≤ we.drew.heap.size := hz5
                  clear r_rd q_rd z_rd
                  obtain ⟨-, -, -, -, r_res, q_res, -⟩ := HT.out.rules
                  have z_res : w.heap.size < we.drew.heap.size := (HT.out.in_ 3 rfl rfl).2
                  go_wp2_with fail
                  refine bodyPost_ret (v := .tuple #[.agg #[.slice none 0 0], .int .i64 er]) (by simp [results, Tryd.results20, go_sem, r_res]) rfl ?_
                  exact DecD.bad HE.out HT.out.below
                · have i2 : ¬ (k : Int) < (N : Int) := by omega
                  go_wp2_with fail
                  refine wp_region_plan [.still [0, 1, 2, 3, 4], .loud 5 [1, 2, 3, 4], .still [6]] (by kernel_rfl) (by kernel_rfl) ?_
                  refine plan_still ?_
                  simp only [pick, List.getElem?_toArray, List.getElem?_cons_succ, List.getElem?_cons_zero]
                  repeat still_step
                  refine wpStill_nil ?_
                  refine plan_loud ?_
                  simp only [pick, List.getElem?_toArray, List.getElem?_cons_succ, List.getElem?_cons_zero]
                  go_wp2_with fail
                  clear r_p q_p r_rd q_rd r_res q_res z_p z_rd z_res
                  obtain ⟨T', K'⟩ := HT.out.put 3 0 (.slice none 0 0) rfl
                  replace T' : St w.heap.size w ((wq.setCell ⟨w.heap.size, 0, none⟩ (.slice none 0 0))) [.row w.heap.size 44 1 (.slice Ak k ck) k (cat css), .blk W3.heap.size #[.slice Ak k ck] 24, .blk W0.heap.size #[.slice (some ⟨bb, oo, none⟩) l.length c, .int .i64 si, .int .i64 er] 83, .blk w.heap.size #[.slice none 0 0] 24] := T'
                  replace K' : Keeps wq [.row w.heap.size 44 1 (.slice Ak k ck) k (cat css), .blk W3.heap.size #[.slice Ak k ck] 24, .blk W0.heap.size #[.slice (some ⟨bb, oo, none⟩) l.length c, .int .i64 si, .int .i64 er] 83, .blk w.heap.size #[.slice none 0 0] 24] ((wq.setCell ⟨w.heap.size, 0, none⟩ (.slice none 0 0))) [.row w.heap.size 44 1 (.slice Ak k ck) k (cat css), .blk W3.heap.size #[.slice Ak k ck] 24, .blk W0.heap.size #[.slice (some ⟨bb, oo, none⟩) l.length c, .int .i64 si, .int .i64 er] 83, .blk w.heap.size #[.slice none 0 0] 24] := K'
                  replace HT := Lib.hid T'
                  replace HB := Lib.hid (HB.out.move (by decide) K')
                  clear T' K'
                  replace hz5 : W6.heap.size ≤ ((wq.setCell ⟨w.heap.size, 0, none⟩ (.slice none 0 0))).heap.size := by simpa using hz5
                  generalize wq.setCell ⟨w.heap.size, 0, none⟩ (.slice none 0 0) = we at *
                  obtain ⟨-, -, r_rd, q_rd, -⟩ := HT.out.rules
                  have z_rd : W0.heap.size < we.heap.size := (HT.out.in_ 2 rfl rfl).2
                  refine ⟨?_, ?_⟩
                  · simp only [Again, pick, List.getElem?_toArray, List.getElem?_cons_succ, List.getElem?_cons_zero]
                    refine ⟨?_, ?_, ?_, ?_, trivial⟩
                    all_goals (still_step; exact wpStill_nil rfl)
                  refine plan_still ?_
                  simp only [pick, List.getElem?_toArray, List.getElem?_cons_succ, List.getElem?_cons_zero]
                  repeat still_step
                  refine wpStill_nil ?_
                  refine plan_end (NoPanic.normal ?_)
                  obtain ⟨T', K'⟩ := HT.out.drew'
                  replace T' : St w.heap.size w we.drew [.row w.heap.size 44 1 (.slice Ak k ck) k (cat css), .blk W3.heap.size #[.slice Ak k ck] 24, .blk W0.heap.size #[.slice (some ⟨bb, oo, none⟩) l.length c, .int .i64 si, .int .i64 er] 83, .blk w.heap.size #[.slice none 0 0] 24] := T'
                  replace K' : Keeps we [.row w.heap.size 44 1 (.slice Ak k ck) k (cat css), .blk W3.heap.size #[.slice Ak k ck] 24, .blk W0.heap.size #[.slice (some ⟨bb, oo, none⟩) l.length c, .int .i64 si, .int .i64 er] 83, .blk w.heap.size #[.slice none 0 0] 24] we.drew [.row w.heap.size 44 1 (.slice Ak k ck) k (cat css), .blk W3.heap.size #[.slice Ak k ck] 24, .blk W0.heap.size #[.slice (some ⟨bb, oo, none⟩) l.length c, .int .i64 si, .int .i64 er] 83, .blk w.heap.size #[.slice none 0 0] 24] := K'
                  replace HT := Lib.hid T'
                  replace HB := Lib.hid (HB.out.move (by decide) K')
                  clear T' K'
                  replace hz5 : W6.heap.size ≤ we.drew.heap.size := hz5
                  clear r_rd q_rd z_rd
                  obtain ⟨-, -, -, -, r_res, q_res, -⟩ := HT.out.rules
                  have z_res : w.heap.size < we.drew.heap.size := (HT.out.in_ 3 rfl rfl).2
                  go_wp2_with fail
                  refine bodyPost_ret (v := .tuple #[.agg #[.slice none 0 0], .int .i64 er]) (by simp [results, Tryd.results20, go_sem, r_res]) rfl ?_
                  exact DecD.bad HE.out HT.out.below
end Go.Proofs.YtfafnjkinolkmaaDoor
