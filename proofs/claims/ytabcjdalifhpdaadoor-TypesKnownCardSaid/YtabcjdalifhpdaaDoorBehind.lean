/- The walk of verify.behind. Condition: registers are in their bounds. -/
import Derived.Test.YtabcjdalifhpdaaDoorFlowP
import Derived.Test.YtabcjdalifhpdaaDoorSt
import Derived.Deep.CutRange
namespace Go.Proofs.YtabcjdalifhpdaaDoor
open Go.RowKit

/-- What is known of eight registers, as cells. -/
def kc (k : List Int) : Array Value := (k.map (.int .i64)).toArray
theorem kc_set (k : List Int) (a : Nat) (x : Int) : (kc k).setIfInBounds a (.int .i64 x) = kc (k.set a x) := by
  unfold kc
  simp [List.map_set]
theorem kc_cell {w : World} {b : Nat} {k : List Int} {t : TypeId} (h : w.heap[b]? = some (.cells (kc k) t (0, 0))) {j : Nat} {x : Int} (hx : k[j]? = some x) : w.cell? ⟨b, j, none⟩ = some (.int .i64 x) := by
  rw [cell_of_row w b j _ _ _ h]
  simp [kc, hx]
theorem eight {k : List Int} (h : k.length = 8) : ∃ m0 m1 m2 m3 m4 m5 m6 m7, k = [m0, m1, m2, m3, m4, m5, m6, m7] := by
  match k, h with
  | [a, b, c, d, e, f, g, i], _ => exact ⟨a, b, c, d, e, f, g, i, rfl⟩
theorem at8_at {k : List Int} {a : Nat} (h : a < k.length) : k[a]? = some (at8 k a) := by
  unfold at8
  rw [Int.toNat_natCast, List.getD_eq_getElem?_getD, List.getElem?_eq_getElem h]
  rfl
/-- Eight cells are stored, one behind the other. -/
def fill8W (w : World) (b : Nat) (u0 u1 u2 u3 u4 u5 u6 u7 : Value) : World :=
  (((((((w.setCell ⟨b, 0, none⟩ u0).setCell ⟨b, 1, none⟩ u1).setCell ⟨b, 2, none⟩ u2).setCell ⟨b, 3, none⟩ u3).setCell ⟨b, 4, none⟩ u4).setCell ⟨b, 5, none⟩ u5).setCell ⟨b, 6, none⟩ u6).setCell ⟨b, 7, none⟩ u7
theorem St.fill8 {B : Nat} {w0 w : World} {R : List Res} (h : St B w0 w R) (i : Nat) {b : Nat} {cs : Array Value} {t : TypeId} (u0 u1 u2 u3 u4 u5 u6 u7 : Value) (hi : R[i]? = some (.blk b cs t)) (hs : cs.size = 8) :
    St B w0 (fill8W w b u0 u1 u2 u3 u4 u5 u6 u7) (R.set i (.blk b #[u0, u1, u2, u3, u4, u5, u6, u7] t)) ∧ Keeps w R (fill8W w b u0 u1 u2 u3 u4 u5 u6 u7) (R.set i (.blk b #[u0, u1, u2, u3, u4, u5, u6, u7] t)) ∧ (fill8W w b u0 u1 u2 u3 u4 u5 u6 u7).heap.size = w.heap.size := by
  have hil : i < R.length := (List.getElem?_eq_some_iff.1 hi).1
  let Inv : World → Array Value → Prop := fun w1 c1 => St B w0 w1 (R.set i (.blk b c1 t)) ∧ Keeps w R w1 (R.set i (.blk b c1 t)) ∧ w1.heap.size = w.heap.size
  have step : ∀ (n : Nat) (u : Value) (w1 : World) (c1 : Array Value), Inv w1 c1 → Inv (w1.setCell ⟨b, n, none⟩ u) (c1.setIfInBounds n u) := fun n u w1 c1 ⟨h1, h2, h3⟩ => by
    have hx : (R.set i (.blk b c1 t))[i]? = some (.blk b c1 t) := List.getElem?_set_self hil
    have h4 := h1.put i n u hx
    rw [List.set_set] at h4
    exact ⟨h4.1, h2.trans (by omega) h4.2, by rw [← h3]; simp⟩
  have h0 : Inv w cs := by
    have : R.set i (.blk b cs t) = R := by rw [← (List.getElem?_eq_some_iff.1 hi).2, List.set_getElem_self]
    show St B w0 w (R.set i (.blk b cs t)) ∧ Keeps w R w (R.set i (.blk b cs t)) ∧ w.heap.size = w.heap.size
    rw [this]
    exact ⟨h, .refl, rfl⟩
  have hA : (((((((cs.setIfInBounds 0 u0).setIfInBounds 1 u1).setIfInBounds 2 u2).setIfInBounds 3 u3).setIfInBounds 4 u4).setIfInBounds 5 u5).setIfInBounds 6 u6).setIfInBounds 7 u7 = #[u0, u1, u2, u3, u4, u5, u6, u7] := by
    obtain ⟨l⟩ := cs
    match l, hs with
    | [a0, a1, a2, a3, a4, a5, a6, a7], _ => simp
  have h8 := step 7 u7 _ _ (step 6 u6 _ _ (step 5 u5 _ _ (step 4 u4 _ _ (step 3 u3 _ _ (step 2 u2 _ _ (step 1 u1 _ _ (step 0 u0 _ _ h0)))))))
  rw [hA] at h8
  exact h8
theorem later_no {k : List Int} {op a b n : Int} (h : op = 0 ∨ op = 5 ∨ op = 6 ∨ op = 9 ∨ op = 14 ∨ op = 15 ∨ op = 19) : laterP k ⟨op, a, b, n⟩ = k := by
  rcases h with rfl | rfl | rfl | rfl | rfl | rfl | rfl <;> rfl
theorem later_one {k : List Int} {op b n : Int} {a : Nat} (h : op = 1 ∨ op = 2 ∨ op = 3 ∨ op = 4 ∨ op = 8 ∨ op = 16) : laterP k ⟨op, a, b, n⟩ = k.set a 1 := by
  rcases h with rfl | rfl | rfl | rfl | rfl | rfl <;> rfl
theorem later_gone {k : List Int} {op b n : Int} {a : Nat} (h : op = 13 ∨ op = 18) : laterP k ⟨op, a, b, n⟩ = k.set a 0 := by
  rcases h with rfl | rfl <;> rfl
theorem later_new {k : List Int} {b n : Int} {a : Nat} : laterP k ⟨7, a, b, n⟩ = k.set a 3 := rfl
theorem later_get {k : List Int} {n : Int} {a b : Nat} : laterP k ⟨10, a, b, n⟩ = (k.set b 2).set a 2 := rfl
theorem later_spawn {k : List Int} {n : Int} {a b : Nat} : laterP k ⟨17, a, b, n⟩ = (k.set b 0).set a 1 := rfl
theorem later_put1 {k : List Int} {n : Int} {a b : Nat} (h : a = b ∨ at8 k b = 2) : laterP k ⟨11, a, b, n⟩ = k.set a 2 := by
  show (if (a : Int) = (b : Int) ∨ at8 k (b : Int) = 2 then k.set a 2 else k.set b 0) = _
  rw [if_pos (h.elim (fun e => .inl (by rw [e])) .inr)]
theorem later_put2 {k : List Int} {n : Int} {a b : Nat} (h : ¬ (a = b ∨ at8 k b = 2)) : laterP k ⟨11, a, b, n⟩ = k.set b 0 := by
  show (if (a : Int) = (b : Int) ∨ at8 k (b : Int) = 2 then k.set a 2 else k.set b 0) = _
  rw [if_neg (fun h' => h (h'.elim (fun e => .inl (by omega)) .inr))]
theorem later_move1 {k : List Int} {n : Int} {a b : Nat} (h : at8 k b = 3) : laterP k ⟨12, a, b, n⟩ = (k.set b 0).set a (at8 k b) := by
  show (if at8 k (b : Int) = 3 then k.set b 0 else k).set a (at8 k b) = _
  rw [if_pos h]
theorem later_move2 {k : List Int} {n : Int} {a b : Nat} (h : ¬ at8 k b = 3) : laterP k ⟨12, a, b, n⟩ = k.set a (at8 k b) := by
  show (if at8 k (b : Int) = 3 then k.set b 0 else k).set a (at8 k b) = _
  rw [if_neg h]
/-- Eight numbers as one value. -/
def kv (k : List Int) : Value := .agg (kc k)

set_option maxRecDepth 100000 in
set_option maxHeartbeats 8000000 in
theorem behind_any (k : List Int) (hk : k.length = 8) (op n : Int) (a b : Nat) (ho : 0 ≤ op ∧ op ≤ 19) (ha : a < 8) (hb : b < 8) (w : World) :
    Calls Tryd.prog 97 #[kv k, .agg #[.int .i64 op, .int .i64 a, .int .i64 b, .int .i64 n]] w fun e w' => e = .returned (kv (laterP k ⟨op, a, b, n⟩)) ∧ Below w.heap.size w w' := by
  have hxa := at8_at (k := k) (a := a) (by omega)
  have hxb := at8_at (k := k) (a := b) (by omega)
  have a1 : (0 : Int) ≤ (a : Int) := by omega
  have a2 : (a : Int) < 8 := by omega
  have b1 : (0 : Int) ≤ (b : Int) := by omega
  have b2 : (b : Int) < 8 := by omega
  have HXa := Lib.hid hxa
  have HXb := Lib.hid hxb
  have Hk := Lib.hid hk
  clear hxa hxb
  obtain ⟨k0, k1, k2, k3, k4, k5, k6, k7, hkk⟩ := eight hk
  have HKK := Lib.hid hkk
  have hL := later_len (k := k) (i := ⟨op, a, b, n⟩)
  rw [hk] at hL
  obtain ⟨m0, m1, m2, m3, m4, m5, m6, m7, hmm⟩ := eight hL
  rw [hmm]
  have hkv : kv k = .agg #[.int .i64 k0, .int .i64 k1, .int .i64 k2, .int .i64 k3, .int .i64 k4, .int .i64 k5, .int .i64 k6, .int .i64 k7] := by rw [hkk]; rfl
  have hmv : kv [m0, m1, m2, m3, m4, m5, m6, m7] = .agg #[.int .i64 m0, .int .i64 m1, .int .i64 m2, .int .i64 m3, .int .i64 m4, .int .i64 m5, .int .i64 m6, .int .i64 m7] := rfl
  rw [hkv, hmv]
  have hkc : #[.int .i64 k0, .int .i64 k1, .int .i64 k2, .int .i64 k3, .int .i64 k4, .int .i64 k5, .int .i64 k6, .int .i64 k7] = kc k := by rw [hkk]; rfl
  have hmc : kc (laterP k ⟨op, a, b, n⟩) = #[.int .i64 m0, .int .i64 m1, .int .i64 m2, .int .i64 m3, .int .i64 m4, .int .i64 m5, .int .i64 m6, .int .i64 m7] := by rw [hmm]; rfl
  have Hkc := Lib.hid hkc
  have Hmc := Lib.hid hmc
  clear hkv hmv hkc hmc hmm hL hkk hk
  generalize hxa : at8 k (a : Int) = xa at *
  generalize hxb : at8 k (b : Int) = xb at *
  have Hxb := Lib.hid hxb
  clear hxa hxb
  rcases op_cases (show ¬ (op < 0 ∨ 19 < op) by omega) with rfl | rfl | rfl | rfl | rfl | rfl | rfl | rfl | rfl | rfl | rfl | rfl | rfl | rfl | rfl | rfl | rfl | rfl | rfl | rfl
  · have T0 : St w.heap.size w ((((w.alloc (.cells #[.int .i64 k0, .int .i64 k1, .int .i64 k2, .int .i64 k3, .int .i64 k4, .int .i64 k5, .int .i64 k6, .int .i64 k7] 119)).alloc (.cells #[.int .i64 0, .int .i64 a, .int .i64 b, .int .i64 n] 42)).alloc (.cells #[.int .i64 0, .int .i64 0, .int .i64 0, .int .i64 0, .int .i64 0, .int .i64 0, .int .i64 0, .int .i64 0] 119))) [.blk (w.heap.size + 1 + 1) #[.int .i64 0, .int .i64 0, .int .i64 0, .int .i64 0, .int .i64 0, .int .i64 0, .int .i64 0, .int .i64 0] 119, .blk (w.heap.size + 1) #[.int .i64 0, .int .i64 a, .int .i64 b, .int .i64 n] 42, .blk w.heap.size #[.int .i64 k0, .int .i64 k1, .int .i64 k2, .int .i64 k3, .int .i64 k4, .int .i64 k5, .int .i64 k6, .int .i64 k7] 119] := ((((((St.start w (Nat.le_refl _)).new' #[.int .i64 k0, .int .i64 k1, .int .i64 k2, .int .i64 k3, .int .i64 k4, .int .i64 k5, .int .i64 k6, .int .i64 k7] 119 (w.heap.size) (by simp)).1).new' #[.int .i64 0, .int .i64 a, .int .i64 b, .int .i64 n] 42 (w.heap.size + 1) (by simp)).1).new' #[.int .i64 0, .int .i64 0, .int .i64 0, .int .i64 0, .int .i64 0, .int .i64 0, .int .i64 0, .int .i64 0] 119 (w.heap.size + 1 + 1) (by simp)).1
    go_enter Tryd.func97, Tryd.ntmps97
    go_upto_region 1 with fail
    generalize (((w.alloc (.cells #[.int .i64 k0, .int .i64 k1, .int .i64 k2, .int .i64 k3, .int .i64 k4, .int .i64 k5, .int .i64 k6, .int .i64 k7] 119)).alloc (.cells #[.int .i64 0, .int .i64 a, .int .i64 b, .int .i64 n] 42)).alloc (.cells #[.int .i64 0, .int .i64 0, .int .i64 0, .int .i64 0, .int .i64 0, .int .i64 0, .int .i64 0, .int .i64 0] 119)) = W at *
    rw [Hkc.out] at T0
    have HT := Lib.hid T0
    clear T0
    obtain ⟨r_o, q_o, r_i, q_i, -⟩ := HT.out.rules
    have z_o : w.heap.size + 1 + 1 < W.heap.size := (HT.out.in_ 0 rfl rfl).2
    have z_i : w.heap.size + 1 < W.heap.size := (HT.out.in_ 1 rfl rfl).2
    have z_k : w.heap.size < W.heap.size := (HT.out.in_ 2 rfl rfl).2
    have f_k : ∀ i, W.frozen? ⟨w.heap.size, i, none⟩ = false := fun i => by have := HT.out.heap 2 rfl; simp [World.frozen?, this]
    go_upto_region 28 with fail
    have hfin := Hmc.out
    rw [later_no (by decide)] at hfin
    rw [hfin] at HT
    clear hfin
    clear r_o q_o r_i q_i z_o z_i z_k f_k
    obtain ⟨r_o, q_o, -, -, r_k, q_k, -⟩ := HT.out.rules
    have z_o : w.heap.size + 1 + 1 < W.heap.size := (HT.out.in_ 0 rfl rfl).2
    have z_k : w.heap.size < W.heap.size := (HT.out.in_ 2 rfl rfl).2
    go_wp2_with fail
    clear r_o q_o r_k q_k z_o z_k
    have hF := HT.out.fill8 0 (.int .i64 m0) (.int .i64 m1) (.int .i64 m2) (.int .i64 m3) (.int .i64 m4) (.int .i64 m5) (.int .i64 m6) (.int .i64 m7) rfl rfl
    unfold fill8W at hF
    generalize ((((((((W.setCell ⟨w.heap.size + 1 + 1, 0, none⟩ (.int .i64 m0)).setCell ⟨w.heap.size + 1 + 1, 1, none⟩ (.int .i64 m1)).setCell ⟨w.heap.size + 1 + 1, 2, none⟩ (.int .i64 m2)).setCell ⟨w.heap.size + 1 + 1, 3, none⟩ (.int .i64 m3)).setCell ⟨w.heap.size + 1 + 1, 4, none⟩ (.int .i64 m4)).setCell ⟨w.heap.size + 1 + 1, 5, none⟩ (.int .i64 m5)).setCell ⟨w.heap.size + 1 + 1, 6, none⟩ (.int .i64 m6)).setCell ⟨w.heap.size + 1 + 1, 7, none⟩ (.int .i64 m7)) = WZ at *
    obtain ⟨T', K', -⟩ := hF
    replace T' : St w.heap.size w WZ [.blk (w.heap.size + 1 + 1) #[.int .i64 m0, .int .i64 m1, .int .i64 m2, .int .i64 m3, .int .i64 m4, .int .i64 m5, .int .i64 m6, .int .i64 m7] 119, .blk (w.heap.size + 1) #[.int .i64 0, .int .i64 a, .int .i64 b, .int .i64 n] 42, .blk w.heap.size #[.int .i64 m0, .int .i64 m1, .int .i64 m2, .int .i64 m3, .int .i64 m4, .int .i64 m5, .int .i64 m6, .int .i64 m7] 119] := T'
    clear K' HT
    have HT := Lib.hid T'
    clear T'
    obtain ⟨r_o, q_o, -⟩ := HT.out.rules
    have z_o : w.heap.size + 1 + 1 < WZ.heap.size := (HT.out.in_ 0 rfl rfl).2
    refine bodyPost_ret (v := .agg #[.int .i64 m0, .int .i64 m1, .int .i64 m2, .int .i64 m3, .int .i64 m4, .int .i64 m5, .int .i64 m6, .int .i64 m7]) (by simp [results, Tryd.results97, go_sem, r_o]) rfl ⟨rfl, HT.out.below⟩
  · have T0 : St w.heap.size w ((((w.alloc (.cells #[.int .i64 k0, .int .i64 k1, .int .i64 k2, .int .i64 k3, .int .i64 k4, .int .i64 k5, .int .i64 k6, .int .i64 k7] 119)).alloc (.cells #[.int .i64 1, .int .i64 a, .int .i64 b, .int .i64 n] 42)).alloc (.cells #[.int .i64 0, .int .i64 0, .int .i64 0, .int .i64 0, .int .i64 0, .int .i64 0, .int .i64 0, .int .i64 0] 119))) [.blk (w.heap.size + 1 + 1) #[.int .i64 0, .int .i64 0, .int .i64 0, .int .i64 0, .int .i64 0, .int .i64 0, .int .i64 0, .int .i64 0] 119, .blk (w.heap.size + 1) #[.int .i64 1, .int .i64 a, .int .i64 b, .int .i64 n] 42, .blk w.heap.size #[.int .i64 k0, .int .i64 k1, .int .i64 k2, .int .i64 k3, .int .i64 k4, .int .i64 k5, .int .i64 k6, .int .i64 k7] 119] := ((((((St.start w (Nat.le_refl _)).new' #[.int .i64 k0, .int .i64 k1, .int .i64 k2, .int .i64 k3, .int .i64 k4, .int .i64 k5, .int .i64 k6, .int .i64 k7] 119 (w.heap.size) (by simp)).1).new' #[.int .i64 1, .int .i64 a, .int .i64 b, .int .i64 n] 42 (w.heap.size + 1) (by simp)).1).new' #[.int .i64 0, .int .i64 0, .int .i64 0, .int .i64 0, .int .i64 0, .int .i64 0, .int .i64 0, .int .i64 0] 119 (w.heap.size + 1 + 1) (by simp)).1
    go_enter Tryd.func97, Tryd.ntmps97
    go_upto_region 1 with fail
    generalize (((w.alloc (.cells #[.int .i64 k0, .int .i64 k1, .int .i64 k2, .int .i64 k3, .int .i64 k4, .int .i64 k5, .int .i64 k6, .int .i64 k7] 119)).alloc (.cells #[.int .i64 1, .int .i64 a, .int .i64 b, .int .i64 n] 42)).alloc (.cells #[.int .i64 0, .int .i64 0, .int .i64 0, .int .i64 0, .int .i64 0, .int .i64 0, .int .i64 0, .int .i64 0] 119)) = W at *
    rw [Hkc.out] at T0
    have HT := Lib.hid T0
    clear T0
    obtain ⟨r_o, q_o, r_i, q_i, -⟩ := HT.out.rules
    have z_o : w.heap.size + 1 + 1 < W.heap.size := (HT.out.in_ 0 rfl rfl).2
    have z_i : w.heap.size + 1 < W.heap.size := (HT.out.in_ 1 rfl rfl).2
    have z_k : w.heap.size < W.heap.size := (HT.out.in_ 2 rfl rfl).2
    have f_k : ∀ i, W.frozen? ⟨w.heap.size, i, none⟩ = false := fun i => by have := HT.out.heap 2 rfl; simp [World.frozen?, this]
    have c_a : W.cell? ⟨w.heap.size, a, none⟩ = some (.int .i64 xa) := kc_cell (HT.out.heap 2 rfl) (HXa.out)
    go_upto_region 28 with fail
    clear r_o q_o r_i q_i z_o z_i z_k f_k c_a
    obtain ⟨T', K'⟩ := HT.out.put 2 a (.int .i64 1) rfl
    simp only [List.set_cons_succ, List.set_cons_zero] at T' K'
    replace HT := Lib.hid T'
    clear T' K'
    rw [kc_set] at HT
    generalize W.setCell ⟨w.heap.size, a, none⟩ (.int .i64 1) = W1 at *
    have hfin := Hmc.out
    rw [later_one (by decide)] at hfin
    rw [hfin] at HT
    clear hfin
    obtain ⟨r_o, q_o, -, -, r_k, q_k, -⟩ := HT.out.rules
    have z_o : w.heap.size + 1 + 1 < W1.heap.size := (HT.out.in_ 0 rfl rfl).2
    have z_k : w.heap.size < W1.heap.size := (HT.out.in_ 2 rfl rfl).2
    go_wp2_with fail
    clear r_o q_o r_k q_k z_o z_k
    have hF := HT.out.fill8 0 (.int .i64 m0) (.int .i64 m1) (.int .i64 m2) (.int .i64 m3) (.int .i64 m4) (.int .i64 m5) (.int .i64 m6) (.int .i64 m7) rfl rfl
    unfold fill8W at hF
    generalize ((((((((W1.setCell ⟨w.heap.size + 1 + 1, 0, none⟩ (.int .i64 m0)).setCell ⟨w.heap.size + 1 + 1, 1, none⟩ (.int .i64 m1)).setCell ⟨w.heap.size + 1 + 1, 2, none⟩ (.int .i64 m2)).setCell ⟨w.heap.size + 1 + 1, 3, none⟩ (.int .i64 m3)).setCell ⟨w.heap.size + 1 + 1, 4, none⟩ (.int .i64 m4)).setCell ⟨w.heap.size + 1 + 1, 5, none⟩ (.int .i64 m5)).setCell ⟨w.heap.size + 1 + 1, 6, none⟩ (.int .i64 m6)).setCell ⟨w.heap.size + 1 + 1, 7, none⟩ (.int .i64 m7)) = WZ at *
    obtain ⟨T', K', -⟩ := hF
    replace T' : St w.heap.size w WZ [.blk (w.heap.size + 1 + 1) #[.int .i64 m0, .int .i64 m1, .int .i64 m2, .int .i64 m3, .int .i64 m4, .int .i64 m5, .int .i64 m6, .int .i64 m7] 119, .blk (w.heap.size + 1) #[.int .i64 1, .int .i64 a, .int .i64 b, .int .i64 n] 42, .blk w.heap.size #[.int .i64 m0, .int .i64 m1, .int .i64 m2, .int .i64 m3, .int .i64 m4, .int .i64 m5, .int .i64 m6, .int .i64 m7] 119] := T'
    clear K' HT
    have HT := Lib.hid T'
    clear T'
    obtain ⟨r_o, q_o, -⟩ := HT.out.rules
    have z_o : w.heap.size + 1 + 1 < WZ.heap.size := (HT.out.in_ 0 rfl rfl).2
    refine bodyPost_ret (v := .agg #[.int .i64 m0, .int .i64 m1, .int .i64 m2, .int .i64 m3, .int .i64 m4, .int .i64 m5, .int .i64 m6, .int .i64 m7]) (by simp [results, Tryd.results97, go_sem, r_o]) rfl ⟨rfl, HT.out.below⟩
  · have T0 : St w.heap.size w ((((w.alloc (.cells #[.int .i64 k0, .int .i64 k1, .int .i64 k2, .int .i64 k3, .int .i64 k4, .int .i64 k5, .int .i64 k6, .int .i64 k7] 119)).alloc (.cells #[.int .i64 2, .int .i64 a, .int .i64 b, .int .i64 n] 42)).alloc (.cells #[.int .i64 0, .int .i64 0, .int .i64 0, .int .i64 0, .int .i64 0, .int .i64 0, .int .i64 0, .int .i64 0] 119))) [.blk (w.heap.size + 1 + 1) #[.int .i64 0, .int .i64 0, .int .i64 0, .int .i64 0, .int .i64 0, .int .i64 0, .int .i64 0, .int .i64 0] 119, .blk (w.heap.size + 1) #[.int .i64 2, .int .i64 a, .int .i64 b, .int .i64 n] 42, .blk w.heap.size #[.int .i64 k0, .int .i64 k1, .int .i64 k2, .int .i64 k3, .int .i64 k4, .int .i64 k5, .int .i64 k6, .int .i64 k7] 119] := ((((((St.start w (Nat.le_refl _)).new' #[.int .i64 k0, .int .i64 k1, .int .i64 k2, .int .i64 k3, .int .i64 k4, .int .i64 k5, .int .i64 k6, .int .i64 k7] 119 (w.heap.size) (by simp)).1).new' #[.int .i64 2, .int .i64 a, .int .i64 b, .int .i64 n] 42 (w.heap.size + 1) (by simp)).1).new' #[.int .i64 0, .int .i64 0, .int .i64 0, .int .i64 0, .int .i64 0, .int .i64 0, .int .i64 0, .int .i64 0] 119 (w.heap.size + 1 + 1) (by simp)).1
    go_enter Tryd.func97, Tryd.ntmps97
    go_upto_region 1 with fail
    generalize (((w.alloc (.cells #[.int .i64 k0, .int .i64 k1, .int .i64 k2, .int .i64 k3, .int .i64 k4, .int .i64 k5, .int .i64 k6, .int .i64 k7] 119)).alloc (.cells #[.int .i64 2, .int .i64 a, .int .i64 b, .int .i64 n] 42)).alloc (.cells #[.int .i64 0, .int .i64 0, .int .i64 0, .int .i64 0, .int .i64 0, .int .i64 0, .int .i64 0, .int .i64 0] 119)) = W at *
    rw [Hkc.out] at T0
    have HT := Lib.hid T0
    clear T0
    obtain ⟨r_o, q_o, r_i, q_i, -⟩ := HT.out.rules
    have z_o : w.heap.size + 1 + 1 < W.heap.size := (HT.out.in_ 0 rfl rfl).2
    have z_i : w.heap.size + 1 < W.heap.size := (HT.out.in_ 1 rfl rfl).2
    have z_k : w.heap.size < W.heap.size := (HT.out.in_ 2 rfl rfl).2
    have f_k : ∀ i, W.frozen? ⟨w.heap.size, i, none⟩ = false := fun i => by have := HT.out.heap 2 rfl; simp [World.frozen?, this]
    have c_a : W.cell? ⟨w.heap.size, a, none⟩ = some (.int .i64 xa) := kc_cell (HT.out.heap 2 rfl) (HXa.out)
    go_upto_region 28 with fail
    clear r_o q_o r_i q_i z_o z_i z_k f_k c_a
    obtain ⟨T', K'⟩ := HT.out.put 2 a (.int .i64 1) rfl
    simp only [List.set_cons_succ, List.set_cons_zero] at T' K'
    replace HT := Lib.hid T'
    clear T' K'
    rw [kc_set] at HT
    generalize W.setCell ⟨w.heap.size, a, none⟩ (.int .i64 1) = W1 at *
    have hfin := Hmc.out
    rw [later_one (by decide)] at hfin
    rw [hfin] at HT
    clear hfin
    obtain ⟨r_o, q_o, -, -, r_k, q_k, -⟩ := HT.out.rules
    have z_o : w.heap.size + 1 + 1 < W1.heap.size := (HT.out.in_ 0 rfl rfl).2
    have z_k : w.heap.size < W1.heap.size := (HT.out.in_ 2 rfl rfl).2
    go_wp2_with fail
    clear r_o q_o r_k q_k z_o z_k
    have hF := HT.out.fill8 0 (.int .i64 m0) (.int .i64 m1) (.int .i64 m2) (.int .i64 m3) (.int .i64 m4) (.int .i64 m5) (.int .i64 m6) (.int .i64 m7) rfl rfl
    unfold fill8W at hF
    generalize ((((((((W1.setCell ⟨w.heap.size + 1 + 1, 0, none⟩ (.int .i64 m0)).setCell ⟨w.heap.size + 1 + 1, 1, none⟩ (.int .i64 m1)).setCell ⟨w.heap.size + 1 + 1, 2, none⟩ (.int .i64 m2)).setCell ⟨w.heap.size + 1 + 1, 3, none⟩ (.int .i64 m3)).setCell ⟨w.heap.size + 1 + 1, 4, none⟩ (.int .i64 m4)).setCell ⟨w.heap.size + 1 + 1, 5, none⟩ (.int .i64 m5)).setCell ⟨w.heap.size + 1 + 1, 6, none⟩ (.int .i64 m6)).setCell ⟨w.heap.size + 1 + 1, 7, none⟩ (.int .i64 m7)) = WZ at *
    obtain ⟨T', K', -⟩ := hF
    replace T' : St w.heap.size w WZ [.blk (w.heap.size + 1 + 1) #[.int .i64 m0, .int .i64 m1, .int .i64 m2, .int .i64 m3, .int .i64 m4, .int .i64 m5, .int .i64 m6, .int .i64 m7] 119, .blk (w.heap.size + 1) #[.int .i64 2, .int .i64 a, .int .i64 b, .int .i64 n] 42, .blk w.heap.size #[.int .i64 m0, .int .i64 m1, .int .i64 m2, .int .i64 m3, .int .i64 m4, .int .i64 m5, .int .i64 m6, .int .i64 m7] 119] := T'
    clear K' HT
    have HT := Lib.hid T'
    clear T'
    obtain ⟨r_o, q_o, -⟩ := HT.out.rules
    have z_o : w.heap.size + 1 + 1 < WZ.heap.size := (HT.out.in_ 0 rfl rfl).2
    refine bodyPost_ret (v := .agg #[.int .i64 m0, .int .i64 m1, .int .i64 m2, .int .i64 m3, .int .i64 m4, .int .i64 m5, .int .i64 m6, .int .i64 m7]) (by simp [results, Tryd.results97, go_sem, r_o]) rfl ⟨rfl, HT.out.below⟩
  · have T0 : St w.heap.size w ((((w.alloc (.cells #[.int .i64 k0, .int .i64 k1, .int .i64 k2, .int .i64 k3, .int .i64 k4, .int .i64 k5, .int .i64 k6, .int .i64 k7] 119)).alloc (.cells #[.int .i64 3, .int .i64 a, .int .i64 b, .int .i64 n] 42)).alloc (.cells #[.int .i64 0, .int .i64 0, .int .i64 0, .int .i64 0, .int .i64 0, .int .i64 0, .int .i64 0, .int .i64 0] 119))) [.blk (w.heap.size + 1 + 1) #[.int .i64 0, .int .i64 0, .int .i64 0, .int .i64 0, .int .i64 0, .int .i64 0, .int .i64 0, .int .i64 0] 119, .blk (w.heap.size + 1) #[.int .i64 3, .int .i64 a, .int .i64 b, .int .i64 n] 42, .blk w.heap.size #[.int .i64 k0, .int .i64 k1, .int .i64 k2, .int .i64 k3, .int .i64 k4, .int .i64 k5, .int .i64 k6, .int .i64 k7] 119] := ((((((St.start w (Nat.le_refl _)).new' #[.int .i64 k0, .int .i64 k1, .int .i64 k2, .int .i64 k3, .int .i64 k4, .int .i64 k5, .int .i64 k6, .int .i64 k7] 119 (w.heap.size) (by simp)).1).new' #[.int .i64 3, .int .i64 a, .int .i64 b, .int .i64 n] 42 (w.heap.size + 1) (by simp)).1).new' #[.int .i64 0, .int .i64 0, .int .i64 0, .int .i64 0, .int .i64 0, .int .i64 0, .int .i64 0, .int .i64 0] 119 (w.heap.size + 1 + 1) (by simp)).1
    go_enter Tryd.func97, Tryd.ntmps97
    go_upto_region 1 with fail
    generalize (((w.alloc (.cells #[.int .i64 k0, .int .i64 k1, .int .i64 k2, .int .i64 k3, .int .i64 k4, .int .i64 k5, .int .i64 k6, .int .i64 k7] 119)).alloc (.cells #[.int .i64 3, .int .i64 a, .int .i64 b, .int .i64 n] 42)).alloc (.cells #[.int .i64 0, .int .i64 0, .int .i64 0, .int .i64 0, .int .i64 0, .int .i64 0, .int .i64 0, .int .i64 0] 119)) = W at *
    rw [Hkc.out] at T0
    have HT := Lib.hid T0
    clear T0
    obtain ⟨r_o, q_o, r_i, q_i, -⟩ := HT.out.rules
    have z_o : w.heap.size + 1 + 1 < W.heap.size := (HT.out.in_ 0 rfl rfl).2
    have z_i : w.heap.size + 1 < W.heap.size := (HT.out.in_ 1 rfl rfl).2
    have z_k : w.heap.size < W.heap.size := (HT.out.in_ 2 rfl rfl).2
    have f_k : ∀ i, W.frozen? ⟨w.heap.size, i, none⟩ = false := fun i => by have := HT.out.heap 2 rfl; simp [World.frozen?, this]
    have c_a : W.cell? ⟨w.heap.size, a, none⟩ = some (.int .i64 xa) := kc_cell (HT.out.heap 2 rfl) (HXa.out)
    go_upto_region 28 with fail
    clear r_o q_o r_i q_i z_o z_i z_k f_k c_a
    obtain ⟨T', K'⟩ := HT.out.put 2 a (.int .i64 1) rfl
    simp only [List.set_cons_succ, List.set_cons_zero] at T' K'
    replace HT := Lib.hid T'
    clear T' K'
    rw [kc_set] at HT
    generalize W.setCell ⟨w.heap.size, a, none⟩ (.int .i64 1) = W1 at *
    have hfin := Hmc.out
    rw [later_one (by decide)] at hfin
    rw [hfin] at HT
    clear hfin
    obtain ⟨r_o, q_o, -, -, r_k, q_k, -⟩ := HT.out.rules
    have z_o : w.heap.size + 1 + 1 < W1.heap.size := (HT.out.in_ 0 rfl rfl).2
    have z_k : w.heap.size < W1.heap.size := (HT.out.in_ 2 rfl rfl).2
    go_wp2_with fail
    clear r_o q_o r_k q_k z_o z_k
    have hF := HT.out.fill8 0 (.int .i64 m0) (.int .i64 m1) (.int .i64 m2) (.int .i64 m3) (.int .i64 m4) (.int .i64 m5) (.int .i64 m6) (.int .i64 m7) rfl rfl
    unfold fill8W at hF
    generalize ((((((((W1.setCell ⟨w.heap.size + 1 + 1, 0, none⟩ (.int .i64 m0)).setCell ⟨w.heap.size + 1 + 1, 1, none⟩ (.int .i64 m1)).setCell ⟨w.heap.size + 1 + 1, 2, none⟩ (.int .i64 m2)).setCell ⟨w.heap.size + 1 + 1, 3, none⟩ (.int .i64 m3)).setCell ⟨w.heap.size + 1 + 1, 4, none⟩ (.int .i64 m4)).setCell ⟨w.heap.size + 1 + 1, 5, none⟩ (.int .i64 m5)).setCell ⟨w.heap.size + 1 + 1, 6, none⟩ (.int .i64 m6)).setCell ⟨w.heap.size + 1 + 1, 7, none⟩ (.int .i64 m7)) = WZ at *
    obtain ⟨T', K', -⟩ := hF
    replace T' : St w.heap.size w WZ [.blk (w.heap.size + 1 + 1) #[.int .i64 m0, .int .i64 m1, .int .i64 m2, .int .i64 m3, .int .i64 m4, .int .i64 m5, .int .i64 m6, .int .i64 m7] 119, .blk (w.heap.size + 1) #[.int .i64 3, .int .i64 a, .int .i64 b, .int .i64 n] 42, .blk w.heap.size #[.int .i64 m0, .int .i64 m1, .int .i64 m2, .int .i64 m3, .int .i64 m4, .int .i64 m5, .int .i64 m6, .int .i64 m7] 119] := T'
    clear K' HT
    have HT := Lib.hid T'
    clear T'
    obtain ⟨r_o, q_o, -⟩ := HT.out.rules
    have z_o : w.heap.size + 1 + 1 < WZ.heap.size := (HT.out.in_ 0 rfl rfl).2
    refine bodyPost_ret (v := .agg #[.int .i64 m0, .int .i64 m1, .int .i64 m2, .int .i64 m3, .int .i64 m4, .int .i64 m5, .int .i64 m6, .int .i64 m7]) (by simp [results, Tryd.results97, go_sem, r_o]) rfl ⟨rfl, HT.out.below⟩
  · have T0 : St w.heap.size w ((((w.alloc (.cells #[.int .i64 k0, .int .i64 k1, .int .i64 k2, .int .i64 k3, .int .i64 k4, .int .i64 k5, .int .i64 k6, .int .i64 k7] 119)).alloc (.cells #[.int .i64 4, .int .i64 a, .int .i64 b, .int .i64 n] 42)).alloc (.cells #[.int .i64 0, .int .i64 0, .int .i64 0, .int .i64 0, .int .i64 0, .int .i64 0, .int .i64 0, .int .i64 0] 119))) [.blk (w.heap.size + 1 + 1) #[.int .i64 0, .int .i64 0, .int .i64 0, .int .i64 0, .int .i64 0, .int .i64 0, .int .i64 0, .int .i64 0] 119, .blk (w.heap.size + 1) #[.int .i64 4, .int .i64 a, .int .i64 b, .int .i64 n] 42, .blk w.heap.size #[.int .i64 k0, .int .i64 k1, .int .i64 k2, .int .i64 k3, .int .i64 k4, .int .i64 k5, .int .i64 k6, .int .i64 k7] 119] := ((((((St.start w (Nat.le_refl _)).new' #[.int .i64 k0, .int .i64 k1, .int .i64 k2, .int .i64 k3, .int .i64 k4, .int .i64 k5, .int .i64 k6, .int .i64 k7] 119 (w.heap.size) (by simp)).1).new' #[.int .i64 4, .int .i64 a, .int .i64 b, .int .i64 n] 42 (w.heap.size + 1) (by simp)).1).new' #[.int .i64 0, .int .i64 0, .int .i64 0, .int .i64 0, .int .i64 0, .int .i64 0, .int .i64 0, .int .i64 0] 119 (w.heap.size + 1 + 1) (by simp)).1
    go_enter Tryd.func97, Tryd.ntmps97
    go_upto_region 1 with fail
    generalize (((w.alloc (.cells #[.int .i64 k0, .int .i64 k1, .int .i64 k2, .int .i64 k3, .int .i64 k4, .int .i64 k5, .int .i64 k6, .int .i64 k7] 119)).alloc (.cells #[.int .i64 4, .int .i64 a, .int .i64 b, .int .i64 n] 42)).alloc (.cells #[.int .i64 0, .int .i64 0, .int .i64 0, .int .i64 0, .int .i64 0, .int .i64 0, .int .i64 0, .int .i64 0] 119)) = W at *
    rw [Hkc.out] at T0
    have HT := Lib.hid T0
    clear T0
    obtain ⟨r_o, q_o, r_i, q_i, -⟩ := HT.out.rules
    have z_o : w.heap.size + 1 + 1 < W.heap.size := (HT.out.in_ 0 rfl rfl).2
    have z_i : w.heap.size + 1 < W.heap.size := (HT.out.in_ 1 rfl rfl).2
    have z_k : w.heap.size < W.heap.size := (HT.out.in_ 2 rfl rfl).2
    have f_k : ∀ i, W.frozen? ⟨w.heap.size, i, none⟩ = false := fun i => by have := HT.out.heap 2 rfl; simp [World.frozen?, this]
    have c_a : W.cell? ⟨w.heap.size, a, none⟩ = some (.int .i64 xa) := kc_cell (HT.out.heap 2 rfl) (HXa.out)
    go_upto_region 28 with fail
    clear r_o q_o r_i q_i z_o z_i z_k f_k c_a
    obtain ⟨T', K'⟩ := HT.out.put 2 a (.int .i64 1) rfl
    simp only [List.set_cons_succ, List.set_cons_zero] at T' K'
    replace HT := Lib.hid T'
    clear T' K'
    rw [kc_set] at HT
    generalize W.setCell ⟨w.heap.size, a, none⟩ (.int .i64 1) = W1 at *
    have hfin := Hmc.out
    rw [later_one (by decide)] at hfin
    rw [hfin] at HT
    clear hfin
    obtain ⟨r_o, q_o, -, -, r_k, q_k, -⟩ := HT.out.rules
    have z_o : w.heap.size + 1 + 1 < W1.heap.size := (HT.out.in_ 0 rfl rfl).2
    have z_k : w.heap.size < W1.heap.size := (HT.out.in_ 2 rfl rfl).2
    go_wp2_with fail
    clear r_o q_o r_k q_k z_o z_k
    have hF := HT.out.fill8 0 (.int .i64 m0) (.int .i64 m1) (.int .i64 m2) (.int .i64 m3) (.int .i64 m4) (.int .i64 m5) (.int .i64 m6) (.int .i64 m7) rfl rfl
    unfold fill8W at hF
    generalize ((((((((W1.setCell ⟨w.heap.size + 1 + 1, 0, none⟩ (.int .i64 m0)).setCell ⟨w.heap.size + 1 + 1, 1, none⟩ (.int .i64 m1)).setCell ⟨w.heap.size + 1 + 1, 2, none⟩ (.int .i64 m2)).setCell ⟨w.heap.size + 1 + 1, 3, none⟩ (.int .i64 m3)).setCell ⟨w.heap.size + 1 + 1, 4, none⟩ (.int .i64 m4)).setCell ⟨w.heap.size + 1 + 1, 5, none⟩ (.int .i64 m5)).setCell ⟨w.heap.size + 1 + 1, 6, none⟩ (.int .i64 m6)).setCell ⟨w.heap.size + 1 + 1, 7, none⟩ (.int .i64 m7)) = WZ at *
    obtain ⟨T', K', -⟩ := hF
    replace T' : St w.heap.size w WZ [.blk (w.heap.size + 1 + 1) #[.int .i64 m0, .int .i64 m1, .int .i64 m2, .int .i64 m3, .int .i64 m4, .int .i64 m5, .int .i64 m6, .int .i64 m7] 119, .blk (w.heap.size + 1) #[.int .i64 4, .int .i64 a, .int .i64 b, .int .i64 n] 42, .blk w.heap.size #[.int .i64 m0, .int .i64 m1, .int .i64 m2, .int .i64 m3, .int .i64 m4, .int .i64 m5, .int .i64 m6, .int .i64 m7] 119] := T'
    clear K' HT
    have HT := Lib.hid T'
    clear T'
    obtain ⟨r_o, q_o, -⟩ := HT.out.rules
    have z_o : w.heap.size + 1 + 1 < WZ.heap.size := (HT.out.in_ 0 rfl rfl).2
    refine bodyPost_ret (v := .agg #[.int .i64 m0, .int .i64 m1, .int .i64 m2, .int .i64 m3, .int .i64 m4, .int .i64 m5, .int .i64 m6, .int .i64 m7]) (by simp [results, Tryd.results97, go_sem, r_o]) rfl ⟨rfl, HT.out.below⟩
  · have T0 : St w.heap.size w ((((w.alloc (.cells #[.int .i64 k0, .int .i64 k1, .int .i64 k2, .int .i64 k3, .int .i64 k4, .int .i64 k5, .int .i64 k6, .int .i64 k7] 119)).alloc (.cells #[.int .i64 5, .int .i64 a, .int .i64 b, .int .i64 n] 42)).alloc (.cells #[.int .i64 0, .int .i64 0, .int .i64 0, .int .i64 0, .int .i64 0, .int .i64 0, .int .i64 0, .int .i64 0] 119))) [.blk (w.heap.size + 1 + 1) #[.int .i64 0, .int .i64 0, .int .i64 0, .int .i64 0, .int .i64 0, .int .i64 0, .int .i64 0, .int .i64 0] 119, .blk (w.heap.size + 1) #[.int .i64 5, .int .i64 a, .int .i64 b, .int .i64 n] 42, .blk w.heap.size #[.int .i64 k0, .int .i64 k1, .int .i64 k2, .int .i64 k3, .int .i64 k4, .int .i64 k5, .int .i64 k6, .int .i64 k7] 119] := ((((((St.start w (Nat.le_refl _)).new' #[.int .i64 k0, .int .i64 k1, .int .i64 k2, .int .i64 k3, .int .i64 k4, .int .i64 k5, .int .i64 k6, .int .i64 k7] 119 (w.heap.size) (by simp)).1).new' #[.int .i64 5, .int .i64 a, .int .i64 b, .int .i64 n] 42 (w.heap.size + 1) (by simp)).1).new' #[.int .i64 0, .int .i64 0, .int .i64 0, .int .i64 0, .int .i64 0, .int .i64 0, .int .i64 0, .int .i64 0] 119 (w.heap.size + 1 + 1) (by simp)).1
    go_enter Tryd.func97, Tryd.ntmps97
    go_upto_region 1 with fail
    generalize (((w.alloc (.cells #[.int .i64 k0, .int .i64 k1, .int .i64 k2, .int .i64 k3, .int .i64 k4, .int .i64 k5, .int .i64 k6, .int .i64 k7] 119)).alloc (.cells #[.int .i64 5, .int .i64 a, .int .i64 b, .int .i64 n] 42)).alloc (.cells #[.int .i64 0, .int .i64 0, .int .i64 0, .int .i64 0, .int .i64 0, .int .i64 0, .int .i64 0, .int .i64 0] 119)) = W at *
    rw [Hkc.out] at T0
    have HT := Lib.hid T0
    clear T0
    obtain ⟨r_o, q_o, r_i, q_i, -⟩ := HT.out.rules
    have z_o : w.heap.size + 1 + 1 < W.heap.size := (HT.out.in_ 0 rfl rfl).2
    have z_i : w.heap.size + 1 < W.heap.size := (HT.out.in_ 1 rfl rfl).2
    have z_k : w.heap.size < W.heap.size := (HT.out.in_ 2 rfl rfl).2
    have f_k : ∀ i, W.frozen? ⟨w.heap.size, i, none⟩ = false := fun i => by have := HT.out.heap 2 rfl; simp [World.frozen?, this]
    go_upto_region 28 with fail
    have hfin := Hmc.out
    rw [later_no (by decide)] at hfin
    rw [hfin] at HT
    clear hfin
    clear r_o q_o r_i q_i z_o z_i z_k f_k
    obtain ⟨r_o, q_o, -, -, r_k, q_k, -⟩ := HT.out.rules
    have z_o : w.heap.size + 1 + 1 < W.heap.size := (HT.out.in_ 0 rfl rfl).2
    have z_k : w.heap.size < W.heap.size := (HT.out.in_ 2 rfl rfl).2
    go_wp2_with fail
    clear r_o q_o r_k q_k z_o z_k
    have hF := HT.out.fill8 0 (.int .i64 m0) (.int .i64 m1) (.int .i64 m2) (.int .i64 m3) (.int .i64 m4) (.int .i64 m5) (.int .i64 m6) (.int .i64 m7) rfl rfl
    unfold fill8W at hF
    generalize ((((((((W.setCell ⟨w.heap.size + 1 + 1, 0, none⟩ (.int .i64 m0)).setCell ⟨w.heap.size + 1 + 1, 1, none⟩ (.int .i64 m1)).setCell ⟨w.heap.size + 1 + 1, 2, none⟩ (.int .i64 m2)).setCell ⟨w.heap.size + 1 + 1, 3, none⟩ (.int .i64 m3)).setCell ⟨w.heap.size + 1 + 1, 4, none⟩ (.int .i64 m4)).setCell ⟨w.heap.size + 1 + 1, 5, none⟩ (.int .i64 m5)).setCell ⟨w.heap.size + 1 + 1, 6, none⟩ (.int .i64 m6)).setCell ⟨w.heap.size + 1 + 1, 7, none⟩ (.int .i64 m7)) = WZ at *
    obtain ⟨T', K', -⟩ := hF
    replace T' : St w.heap.size w WZ [.blk (w.heap.size + 1 + 1) #[.int .i64 m0, .int .i64 m1, .int .i64 m2, .int .i64 m3, .int .i64 m4, .int .i64 m5, .int .i64 m6, .int .i64 m7] 119, .blk (w.heap.size + 1) #[.int .i64 5, .int .i64 a, .int .i64 b, .int .i64 n] 42, .blk w.heap.size #[.int .i64 m0, .int .i64 m1, .int .i64 m2, .int .i64 m3, .int .i64 m4, .int .i64 m5, .int .i64 m6, .int .i64 m7] 119] := T'
    clear K' HT
    have HT := Lib.hid T'
    clear T'
    obtain ⟨r_o, q_o, -⟩ := HT.out.rules
    have z_o : w.heap.size + 1 + 1 < WZ.heap.size := (HT.out.in_ 0 rfl rfl).2
    refine bodyPost_ret (v := .agg #[.int .i64 m0, .int .i64 m1, .int .i64 m2, .int .i64 m3, .int .i64 m4, .int .i64 m5, .int .i64 m6, .int .i64 m7]) (by simp [results, Tryd.results97, go_sem, r_o]) rfl ⟨rfl, HT.out.below⟩
  · have T0 : St w.heap.size w ((((w.alloc (.cells #[.int .i64 k0, .int .i64 k1, .int .i64 k2, .int .i64 k3, .int .i64 k4, .int .i64 k5, .int .i64 k6, .int .i64 k7] 119)).alloc (.cells #[.int .i64 6, .int .i64 a, .int .i64 b, .int .i64 n] 42)).alloc (.cells #[.int .i64 0, .int .i64 0, .int .i64 0, .int .i64 0, .int .i64 0, .int .i64 0, .int .i64 0, .int .i64 0] 119))) [.blk (w.heap.size + 1 + 1) #[.int .i64 0, .int .i64 0, .int .i64 0, .int .i64 0, .int .i64 0, .int .i64 0, .int .i64 0, .int .i64 0] 119, .blk (w.heap.size + 1) #[.int .i64 6, .int .i64 a, .int .i64 b, .int .i64 n] 42, .blk w.heap.size #[.int .i64 k0, .int .i64 k1, .int .i64 k2, .int .i64 k3, .int .i64 k4, .int .i64 k5, .int .i64 k6, .int .i64 k7] 119] := ((((((St.start w (Nat.le_refl _)).new' #[.int .i64 k0, .int .i64 k1, .int .i64 k2, .int .i64 k3, .int .i64 k4, .int .i64 k5, .int .i64 k6, .int .i64 k7] 119 (w.heap.size) (by simp)).1).new' #[.int .i64 6, .int .i64 a, .int .i64 b, .int .i64 n] 42 (w.heap.size + 1) (by simp)).1).new' #[.int .i64 0, .int .i64 0, .int .i64 0, .int .i64 0, .int .i64 0, .int .i64 0, .int .i64 0, .int .i64 0] 119 (w.heap.size + 1 + 1) (by simp)).1
    go_enter Tryd.func97, Tryd.ntmps97
    go_upto_region 1 with fail
    generalize (((w.alloc (.cells #[.int .i64 k0, .int .i64 k1, .int .i64 k2, .int .i64 k3, .int .i64 k4, .int .i64 k5, .int .i64 k6, .int .i64 k7] 119)).alloc (.cells #[.int .i64 6, .int .i64 a, .int .i64 b, .int .i64 n] 42)).alloc (.cells #[.int .i64 0, .int .i64 0, .int .i64 0, .int .i64 0, .int .i64 0, .int .i64 0, .int .i64 0, .int .i64 0] 119)) = W at *
    rw [Hkc.out] at T0
    have HT := Lib.hid T0
    clear T0
    obtain ⟨r_o, q_o, r_i, q_i, -⟩ := HT.out.rules
    have z_o : w.heap.size + 1 + 1 < W.heap.size := (HT.out.in_ 0 rfl rfl).2
    have z_i : w.heap.size + 1 < W.heap.size := (HT.out.in_ 1 rfl rfl).2
    have z_k : w.heap.size < W.heap.size := (HT.out.in_ 2 rfl rfl).2
    have f_k : ∀ i, W.frozen? ⟨w.heap.size, i, none⟩ = false := fun i => by have := HT.out.heap 2 rfl; simp [World.frozen?, this]
    go_upto_region 28 with fail
    have hfin := Hmc.out
    rw [later_no (by decide)] at hfin
    rw [hfin] at HT
    clear hfin
    clear r_o q_o r_i q_i z_o z_i z_k f_k
    obtain ⟨r_o, q_o, -, -, r_k, q_k, -⟩ := HT.out.rules
    have z_o : w.heap.size + 1 + 1 < W.heap.size := (HT.out.in_ 0 rfl rfl).2
    have z_k : w.heap.size < W.heap.size := (HT.out.in_ 2 rfl rfl).2
    go_wp2_with fail
    clear r_o q_o r_k q_k z_o z_k
    have hF := HT.out.fill8 0 (.int .i64 m0) (.int .i64 m1) (.int .i64 m2) (.int .i64 m3) (.int .i64 m4) (.int .i64 m5) (.int .i64 m6) (.int .i64 m7) rfl rfl
    unfold fill8W at hF
    generalize ((((((((W.setCell ⟨w.heap.size + 1 + 1, 0, none⟩ (.int .i64 m0)).setCell ⟨w.heap.size + 1 + 1, 1, none⟩ (.int .i64 m1)).setCell ⟨w.heap.size + 1 + 1, 2, none⟩ (.int .i64 m2)).setCell ⟨w.heap.size + 1 + 1, 3, none⟩ (.int .i64 m3)).setCell ⟨w.heap.size + 1 + 1, 4, none⟩ (.int .i64 m4)).setCell ⟨w.heap.size + 1 + 1, 5, none⟩ (.int .i64 m5)).setCell ⟨w.heap.size + 1 + 1, 6, none⟩ (.int .i64 m6)).setCell ⟨w.heap.size + 1 + 1, 7, none⟩ (.int .i64 m7)) = WZ at *
    obtain ⟨T', K', -⟩ := hF
    replace T' : St w.heap.size w WZ [.blk (w.heap.size + 1 + 1) #[.int .i64 m0, .int .i64 m1, .int .i64 m2, .int .i64 m3, .int .i64 m4, .int .i64 m5, .int .i64 m6, .int .i64 m7] 119, .blk (w.heap.size + 1) #[.int .i64 6, .int .i64 a, .int .i64 b, .int .i64 n] 42, .blk w.heap.size #[.int .i64 m0, .int .i64 m1, .int .i64 m2, .int .i64 m3, .int .i64 m4, .int .i64 m5, .int .i64 m6, .int .i64 m7] 119] := T'
    clear K' HT
    have HT := Lib.hid T'
    clear T'
    obtain ⟨r_o, q_o, -⟩ := HT.out.rules
    have z_o : w.heap.size + 1 + 1 < WZ.heap.size := (HT.out.in_ 0 rfl rfl).2
    refine bodyPost_ret (v := .agg #[.int .i64 m0, .int .i64 m1, .int .i64 m2, .int .i64 m3, .int .i64 m4, .int .i64 m5, .int .i64 m6, .int .i64 m7]) (by simp [results, Tryd.results97, go_sem, r_o]) rfl ⟨rfl, HT.out.below⟩
  · have T0 : St w.heap.size w ((((w.alloc (.cells #[.int .i64 k0, .int .i64 k1, .int .i64 k2, .int .i64 k3, .int .i64 k4, .int .i64 k5, .int .i64 k6, .int .i64 k7] 119)).alloc (.cells #[.int .i64 7, .int .i64 a, .int .i64 b, .int .i64 n] 42)).alloc (.cells #[.int .i64 0, .int .i64 0, .int .i64 0, .int .i64 0, .int .i64 0, .int .i64 0, .int .i64 0, .int .i64 0] 119))) [.blk (w.heap.size + 1 + 1) #[.int .i64 0, .int .i64 0, .int .i64 0, .int .i64 0, .int .i64 0, .int .i64 0, .int .i64 0, .int .i64 0] 119, .blk (w.heap.size + 1) #[.int .i64 7, .int .i64 a, .int .i64 b, .int .i64 n] 42, .blk w.heap.size #[.int .i64 k0, .int .i64 k1, .int .i64 k2, .int .i64 k3, .int .i64 k4, .int .i64 k5, .int .i64 k6, .int .i64 k7] 119] := ((((((St.start w (Nat.le_refl _)).new' #[.int .i64 k0, .int .i64 k1, .int .i64 k2, .int .i64 k3, .int .i64 k4, .int .i64 k5, .int .i64 k6, .int .i64 k7] 119 (w.heap.size) (by simp)).1).new' #[.int .i64 7, .int .i64 a, .int .i64 b, .int .i64 n] 42 (w.heap.size + 1) (by simp)).1).new' #[.int .i64 0, .int .i64 0, .int .i64 0, .int .i64 0, .int .i64 0, .int .i64 0, .int .i64 0, .int .i64 0] 119 (w.heap.size + 1 + 1) (by simp)).1
    go_enter Tryd.func97, Tryd.ntmps97
    go_upto_region 1 with fail
    generalize (((w.alloc (.cells #[.int .i64 k0, .int .i64 k1, .int .i64 k2, .int .i64 k3, .int .i64 k4, .int .i64 k5, .int .i64 k6, .int .i64 k7] 119)).alloc (.cells #[.int .i64 7, .int .i64 a, .int .i64 b, .int .i64 n] 42)).alloc (.cells #[.int .i64 0, .int .i64 0, .int .i64 0, .int .i64 0, .int .i64 0, .int .i64 0, .int .i64 0, .int .i64 0] 119)) = W at *
    rw [Hkc.out] at T0
    have HT := Lib.hid T0
    clear T0
    obtain ⟨r_o, q_o, r_i, q_i, -⟩ := HT.out.rules
    have z_o : w.heap.size + 1 + 1 < W.heap.size := (HT.out.in_ 0 rfl rfl).2
    have z_i : w.heap.size + 1 < W.heap.size := (HT.out.in_ 1 rfl rfl).2
    have z_k : w.heap.size < W.heap.size := (HT.out.in_ 2 rfl rfl).2
    have f_k : ∀ i, W.frozen? ⟨w.heap.size, i, none⟩ = false := fun i => by have := HT.out.heap 2 rfl; simp [World.frozen?, this]
    have c_a : W.cell? ⟨w.heap.size, a, none⟩ = some (.int .i64 xa) := kc_cell (HT.out.heap 2 rfl) (HXa.out)
    go_upto_region 28 with fail
    clear r_o q_o r_i q_i z_o z_i z_k f_k c_a
    obtain ⟨T', K'⟩ := HT.out.put 2 a (.int .i64 3) rfl
    simp only [List.set_cons_succ, List.set_cons_zero] at T' K'
    replace HT := Lib.hid T'
    clear T' K'
    rw [kc_set] at HT
    generalize W.setCell ⟨w.heap.size, a, none⟩ (.int .i64 3) = W1 at *
    have hfin := Hmc.out
    rw [later_new] at hfin
    rw [hfin] at HT
    clear hfin
    obtain ⟨r_o, q_o, -, -, r_k, q_k, -⟩ := HT.out.rules
    have z_o : w.heap.size + 1 + 1 < W1.heap.size := (HT.out.in_ 0 rfl rfl).2
    have z_k : w.heap.size < W1.heap.size := (HT.out.in_ 2 rfl rfl).2
    go_wp2_with fail
    clear r_o q_o r_k q_k z_o z_k
    have hF := HT.out.fill8 0 (.int .i64 m0) (.int .i64 m1) (.int .i64 m2) (.int .i64 m3) (.int .i64 m4) (.int .i64 m5) (.int .i64 m6) (.int .i64 m7) rfl rfl
    unfold fill8W at hF
    generalize ((((((((W1.setCell ⟨w.heap.size + 1 + 1, 0, none⟩ (.int .i64 m0)).setCell ⟨w.heap.size + 1 + 1, 1, none⟩ (.int .i64 m1)).setCell ⟨w.heap.size + 1 + 1, 2, none⟩ (.int .i64 m2)).setCell ⟨w.heap.size + 1 + 1, 3, none⟩ (.int .i64 m3)).setCell ⟨w.heap.size + 1 + 1, 4, none⟩ (.int .i64 m4)).setCell ⟨w.heap.size + 1 + 1, 5, none⟩ (.int .i64 m5)).setCell ⟨w.heap.size + 1 + 1, 6, none⟩ (.int .i64 m6)).setCell ⟨w.heap.size + 1 + 1, 7, none⟩ (.int .i64 m7)) = WZ at *
    obtain ⟨T', K', -⟩ := hF
    replace T' : St w.heap.size w WZ [.blk (w.heap.size + 1 + 1) #[.int .i64 m0, .int .i64 m1, .int .i64 m2, .int .i64 m3, .int .i64 m4, .int .i64 m5, .int .i64 m6, .int .i64 m7] 119, .blk (w.heap.size + 1) #[.int .i64 7, .int .i64 a, .int .i64 b, .int .i64 n] 42, .blk w.heap.size #[.int .i64 m0, .int .i64 m1, .int .i64 m2, .int .i64 m3, .int .i64 m4, .int .i64 m5, .int .i64 m6, .int .i64 m7] 119] := T'
    clear K' HT
    have HT := Lib.hid T'
    clear T'
    obtain ⟨r_o, q_o, -⟩ := HT.out.rules
    have z_o : w.heap.size + 1 + 1 < WZ.heap.size := (HT.out.in_ 0 rfl rfl).2
    refine bodyPost_ret (v := .agg #[.int .i64 m0, .int .i64 m1, .int .i64 m2, .int .i64 m3, .int .i64 m4, .int .i64 m5, .int .i64 m6, .int .i64 m7]) (by simp [results, Tryd.results97, go_sem, r_o]) rfl ⟨rfl, HT.out.below⟩
  · have T0 : St w.heap.size w ((((w.alloc (.cells #[.int .i64 k0, .int .i64 k1, .int .i64 k2, .int .i64 k3, .int .i64 k4, .int .i64 k5, .int .i64 k6, .int .i64 k7] 119)).alloc (.cells #[.int .i64 8, .int .i64 a, .int .i64 b, .int .i64 n] 42)).alloc (.cells #[.int .i64 0, .int .i64 0, .int .i64 0, .int .i64 0, .int .i64 0, .int .i64 0, .int .i64 0, .int .i64 0] 119))) [.blk (w.heap.size + 1 + 1) #[.int .i64 0, .int .i64 0, .int .i64 0, .int .i64 0, .int .i64 0, .int .i64 0, .int .i64 0, .int .i64 0] 119, .blk (w.heap.size + 1) #[.int .i64 8, .int .i64 a, .int .i64 b, .int .i64 n] 42, .blk w.heap.size #[.int .i64 k0, .int .i64 k1, .int .i64 k2, .int .i64 k3, .int .i64 k4, .int .i64 k5, .int .i64 k6, .int .i64 k7] 119] := ((((((St.start w (Nat.le_refl _)).new' #[.int .i64 k0, .int .i64 k1, .int .i64 k2, .int .i64 k3, .int .i64 k4, .int .i64 k5, .int .i64 k6, .int .i64 k7] 119 (w.heap.size) (by simp)).1).new' #[.int .i64 8, .int .i64 a, .int .i64 b, .int .i64 n] 42 (w.heap.size + 1) (by simp)).1).new' #[.int .i64 0, .int .i64 0, .int .i64 0, .int .i64 0, .int .i64 0, .int .i64 0, .int .i64 0, .int .i64 0] 119 (w.heap.size + 1 + 1) (by simp)).1
    go_enter Tryd.func97, Tryd.ntmps97
    go_upto_region 1 with fail
    generalize (((w.alloc (.cells #[.int .i64 k0, .int .i64 k1, .int .i64 k2, .int .i64 k3, .int .i64 k4, .int .i64 k5, .int .i64 k6, .int .i64 k7] 119)).alloc (.cells #[.int .i64 8, .int .i64 a, .int .i64 b, .int .i64 n] 42)).alloc (.cells #[.int .i64 0, .int .i64 0, .int .i64 0, .int .i64 0, .int .i64 0, .int .i64 0, .int .i64 0, .int .i64 0] 119)) = W at *
    rw [Hkc.out] at T0
    have HT := Lib.hid T0
    clear T0
    obtain ⟨r_o, q_o, r_i, q_i, -⟩ := HT.out.rules
    have z_o : w.heap.size + 1 + 1 < W.heap.size := (HT.out.in_ 0 rfl rfl).2
    have z_i : w.heap.size + 1 < W.heap.size := (HT.out.in_ 1 rfl rfl).2
    have z_k : w.heap.size < W.heap.size := (HT.out.in_ 2 rfl rfl).2
    have f_k : ∀ i, W.frozen? ⟨w.heap.size, i, none⟩ = false := fun i => by have := HT.out.heap 2 rfl; simp [World.frozen?, this]
    have c_a : W.cell? ⟨w.heap.size, a, none⟩ = some (.int .i64 xa) := kc_cell (HT.out.heap 2 rfl) (HXa.out)
    go_upto_region 28 with fail
    clear r_o q_o r_i q_i z_o z_i z_k f_k c_a
    obtain ⟨T', K'⟩ := HT.out.put 2 a (.int .i64 1) rfl
    simp only [List.set_cons_succ, List.set_cons_zero] at T' K'
    replace HT := Lib.hid T'
    clear T' K'
    rw [kc_set] at HT
    generalize W.setCell ⟨w.heap.size, a, none⟩ (.int .i64 1) = W1 at *
    have hfin := Hmc.out
    rw [later_one (by decide)] at hfin
    rw [hfin] at HT
    clear hfin
    obtain ⟨r_o, q_o, -, -, r_k, q_k, -⟩ := HT.out.rules
    have z_o : w.heap.size + 1 + 1 < W1.heap.size := (HT.out.in_ 0 rfl rfl).2
    have z_k : w.heap.size < W1.heap.size := (HT.out.in_ 2 rfl rfl).2
    go_wp2_with fail
    clear r_o q_o r_k q_k z_o z_k
    have hF := HT.out.fill8 0 (.int .i64 m0) (.int .i64 m1) (.int .i64 m2) (.int .i64 m3) (.int .i64 m4) (.int .i64 m5) (.int .i64 m6) (.int .i64 m7) rfl rfl
    unfold fill8W at hF
    generalize ((((((((W1.setCell ⟨w.heap.size + 1 + 1, 0, none⟩ (.int .i64 m0)).setCell ⟨w.heap.size + 1 + 1, 1, none⟩ (.int .i64 m1)).setCell ⟨w.heap.size + 1 + 1, 2, none⟩ (.int .i64 m2)).setCell ⟨w.heap.size + 1 + 1, 3, none⟩ (.int .i64 m3)).setCell ⟨w.heap.size + 1 + 1, 4, none⟩ (.int .i64 m4)).setCell ⟨w.heap.size + 1 + 1, 5, none⟩ (.int .i64 m5)).setCell ⟨w.heap.size + 1 + 1, 6, none⟩ (.int .i64 m6)).setCell ⟨w.heap.size + 1 + 1, 7, none⟩ (.int .i64 m7)) = WZ at *
    obtain ⟨T', K', -⟩ := hF
    replace T' : St w.heap.size w WZ [.blk (w.heap.size + 1 + 1) #[.int .i64 m0, .int .i64 m1, .int .i64 m2, .int .i64 m3, .int .i64 m4, .int .i64 m5, .int .i64 m6, .int .i64 m7] 119, .blk (w.heap.size + 1) #[.int .i64 8, .int .i64 a, .int .i64 b, .int .i64 n] 42, .blk w.heap.size #[.int .i64 m0, .int .i64 m1, .int .i64 m2, .int .i64 m3, .int .i64 m4, .int .i64 m5, .int .i64 m6, .int .i64 m7] 119] := T'
    clear K' HT
    have HT := Lib.hid T'
    clear T'
    obtain ⟨r_o, q_o, -⟩ := HT.out.rules
    have z_o : w.heap.size + 1 + 1 < WZ.heap.size := (HT.out.in_ 0 rfl rfl).2
    refine bodyPost_ret (v := .agg #[.int .i64 m0, .int .i64 m1, .int .i64 m2, .int .i64 m3, .int .i64 m4, .int .i64 m5, .int .i64 m6, .int .i64 m7]) (by simp [results, Tryd.results97, go_sem, r_o]) rfl ⟨rfl, HT.out.below⟩
  · have T0 : St w.heap.size w ((((w.alloc (.cells #[.int .i64 k0, .int .i64 k1, .int .i64 k2, .int .i64 k3, .int .i64 k4, .int .i64 k5, .int .i64 k6, .int .i64 k7] 119)).alloc (.cells #[.int .i64 9, .int .i64 a, .int .i64 b, .int .i64 n] 42)).alloc (.cells #[.int .i64 0, .int .i64 0, .int .i64 0, .int .i64 0, .int .i64 0, .int .i64 0, .int .i64 0, .int .i64 0] 119))) [.blk (w.heap.size + 1 + 1) #[.int .i64 0, .int .i64 0, .int .i64 0, .int .i64 0, .int .i64 0, .int .i64 0, .int .i64 0, .int .i64 0] 119, .blk (w.heap.size + 1) #[.int .i64 9, .int .i64 a, .int .i64 b, .int .i64 n] 42, .blk w.heap.size #[.int .i64 k0, .int .i64 k1, .int .i64 k2, .int .i64 k3, .int .i64 k4, .int .i64 k5, .int .i64 k6, .int .i64 k7] 119] := ((((((St.start w (Nat.le_refl _)).new' #[.int .i64 k0, .int .i64 k1, .int .i64 k2, .int .i64 k3, .int .i64 k4, .int .i64 k5, .int .i64 k6, .int .i64 k7] 119 (w.heap.size) (by simp)).1).new' #[.int .i64 9, .int .i64 a, .int .i64 b, .int .i64 n] 42 (w.heap.size + 1) (by simp)).1).new' #[.int .i64 0, .int .i64 0, .int .i64 0, .int .i64 0, .int .i64 0, .int .i64 0, .int .i64 0, .int .i64 0] 119 (w.heap.size + 1 + 1) (by simp)).1
    go_enter Tryd.func97, Tryd.ntmps97
    go_upto_region 1 with fail
    generalize (((w.alloc (.cells #[.int .i64 k0, .int .i64 k1, .int .i64 k2, .int .i64 k3, .int .i64 k4, .int .i64 k5, .int .i64 k6, .int .i64 k7] 119)).alloc (.cells #[.int .i64 9, .int .i64 a, .int .i64 b, .int .i64 n] 42)).alloc (.cells #[.int .i64 0, .int .i64 0, .int .i64 0, .int .i64 0, .int .i64 0, .int .i64 0, .int .i64 0, .int .i64 0] 119)) = W at *
    rw [Hkc.out] at T0
    have HT := Lib.hid T0
    clear T0
    obtain ⟨r_o, q_o, r_i, q_i, -⟩ := HT.out.rules
    have z_o : w.heap.size + 1 + 1 < W.heap.size := (HT.out.in_ 0 rfl rfl).2
    have z_i : w.heap.size + 1 < W.heap.size := (HT.out.in_ 1 rfl rfl).2
    have z_k : w.heap.size < W.heap.size := (HT.out.in_ 2 rfl rfl).2
    have f_k : ∀ i, W.frozen? ⟨w.heap.size, i, none⟩ = false := fun i => by have := HT.out.heap 2 rfl; simp [World.frozen?, this]
    go_upto_region 28 with fail
    have hfin := Hmc.out
    rw [later_no (by decide)] at hfin
    rw [hfin] at HT
    clear hfin
    clear r_o q_o r_i q_i z_o z_i z_k f_k
    obtain ⟨r_o, q_o, -, -, r_k, q_k, -⟩ := HT.out.rules
    have z_o : w.heap.size + 1 + 1 < W.heap.size := (HT.out.in_ 0 rfl rfl).2
    have z_k : w.heap.size < W.heap.size := (HT.out.in_ 2 rfl rfl).2
    go_wp2_with fail
    clear r_o q_o r_k q_k z_o z_k
    have hF := HT.out.fill8 0 (.int .i64 m0) (.int .i64 m1) (.int .i64 m2) (.int .i64 m3) (.int .i64 m4) (.int .i64 m5) (.int .i64 m6) (.int .i64 m7) rfl rfl
    unfold fill8W at hF
    generalize ((((((((W.setCell ⟨w.heap.size + 1 + 1, 0, none⟩ (.int .i64 m0)).setCell ⟨w.heap.size + 1 + 1, 1, none⟩ (.int .i64 m1)).setCell ⟨w.heap.size + 1 + 1, 2, none⟩ (.int .i64 m2)).setCell ⟨w.heap.size + 1 + 1, 3, none⟩ (.int .i64 m3)).setCell ⟨w.heap.size + 1 + 1, 4, none⟩ (.int .i64 m4)).setCell ⟨w.heap.size + 1 + 1, 5, none⟩ (.int .i64 m5)).setCell ⟨w.heap.size + 1 + 1, 6, none⟩ (.int .i64 m6)).setCell ⟨w.heap.size + 1 + 1, 7, none⟩ (.int .i64 m7)) = WZ at *
    obtain ⟨T', K', -⟩ := hF
    replace T' : St w.heap.size w WZ [.blk (w.heap.size + 1 + 1) #[.int .i64 m0, .int .i64 m1, .int .i64 m2, .int .i64 m3, .int .i64 m4, .int .i64 m5, .int .i64 m6, .int .i64 m7] 119, .blk (w.heap.size + 1) #[.int .i64 9, .int .i64 a, .int .i64 b, .int .i64 n] 42, .blk w.heap.size #[.int .i64 m0, .int .i64 m1, .int .i64 m2, .int .i64 m3, .int .i64 m4, .int .i64 m5, .int .i64 m6, .int .i64 m7] 119] := T'
    clear K' HT
    have HT := Lib.hid T'
    clear T'
    obtain ⟨r_o, q_o, -⟩ := HT.out.rules
    have z_o : w.heap.size + 1 + 1 < WZ.heap.size := (HT.out.in_ 0 rfl rfl).2
    refine bodyPost_ret (v := .agg #[.int .i64 m0, .int .i64 m1, .int .i64 m2, .int .i64 m3, .int .i64 m4, .int .i64 m5, .int .i64 m6, .int .i64 m7]) (by simp [results, Tryd.results97, go_sem, r_o]) rfl ⟨rfl, HT.out.below⟩
  · have T0 : St w.heap.size w ((((w.alloc (.cells #[.int .i64 k0, .int .i64 k1, .int .i64 k2, .int .i64 k3, .int .i64 k4, .int .i64 k5, .int .i64 k6, .int .i64 k7] 119)).alloc (.cells #[.int .i64 10, .int .i64 a, .int .i64 b, .int .i64 n] 42)).alloc (.cells #[.int .i64 0, .int .i64 0, .int .i64 0, .int .i64 0, .int .i64 0, .int .i64 0, .int .i64 0, .int .i64 0] 119))) [.blk (w.heap.size + 1 + 1) #[.int .i64 0, .int .i64 0, .int .i64 0, .int .i64 0, .int .i64 0, .int .i64 0, .int .i64 0, .int .i64 0] 119, .blk (w.heap.size + 1) #[.int .i64 10, .int .i64 a, .int .i64 b, .int .i64 n] 42, .blk w.heap.size #[.int .i64 k0, .int .i64 k1, .int .i64 k2, .int .i64 k3, .int .i64 k4, .int .i64 k5, .int .i64 k6, .int .i64 k7] 119] := ((((((St.start w (Nat.le_refl _)).new' #[.int .i64 k0, .int .i64 k1, .int .i64 k2, .int .i64 k3, .int .i64 k4, .int .i64 k5, .int .i64 k6, .int .i64 k7] 119 (w.heap.size) (by simp)).1).new' #[.int .i64 10, .int .i64 a, .int .i64 b, .int .i64 n] 42 (w.heap.size + 1) (by simp)).1).new' #[.int .i64 0, .int .i64 0, .int .i64 0, .int .i64 0, .int .i64 0, .int .i64 0, .int .i64 0, .int .i64 0] 119 (w.heap.size + 1 + 1) (by simp)).1
    go_enter Tryd.func97, Tryd.ntmps97
    go_upto_region 1 with fail
    generalize (((w.alloc (.cells #[.int .i64 k0, .int .i64 k1, .int .i64 k2, .int .i64 k3, .int .i64 k4, .int .i64 k5, .int .i64 k6, .int .i64 k7] 119)).alloc (.cells #[.int .i64 10, .int .i64 a, .int .i64 b, .int .i64 n] 42)).alloc (.cells #[.int .i64 0, .int .i64 0, .int .i64 0, .int .i64 0, .int .i64 0, .int .i64 0, .int .i64 0, .int .i64 0] 119)) = W at *
    rw [Hkc.out] at T0
    have HT := Lib.hid T0
    clear T0
    obtain ⟨r_o, q_o, r_i, q_i, -⟩ := HT.out.rules
    have z_o : w.heap.size + 1 + 1 < W.heap.size := (HT.out.in_ 0 rfl rfl).2
    have z_i : w.heap.size + 1 < W.heap.size := (HT.out.in_ 1 rfl rfl).2
    have z_k : w.heap.size < W.heap.size := (HT.out.in_ 2 rfl rfl).2
    have f_k : ∀ i, W.frozen? ⟨w.heap.size, i, none⟩ = false := fun i => by have := HT.out.heap 2 rfl; simp [World.frozen?, this]
    have c_b : W.cell? ⟨w.heap.size, b, none⟩ = some (.int .i64 xb) := kc_cell (HT.out.heap 2 rfl) (HXb.out)
    go_upto_region 12 with fail
    refine wp_region_plan [.still [0, 1, 2, 3, 4], .loud 5 [2, 3], .still [6], .loud 7 []] (by kernel_rfl) (by kernel_rfl) ?_
    refine plan_still ?_
    simp only [pick, List.getElem?_toArray, List.getElem?_cons_succ, List.getElem?_cons_zero]
    repeat still_step
    refine wpStill_nil ?_
    refine plan_loud ?_
    simp only [pick, List.getElem?_toArray, List.getElem?_cons_succ, List.getElem?_cons_zero]
    go_wp2_with fail
    clear r_o q_o r_i q_i z_o z_i z_k f_k c_b
    obtain ⟨T', K'⟩ := HT.out.put 2 b (.int .i64 2) rfl
    simp only [List.set_cons_succ, List.set_cons_zero] at T' K'
    replace HT := Lib.hid T'
    clear T' K'
    rw [kc_set] at HT
    generalize W.setCell ⟨w.heap.size, b, none⟩ (.int .i64 2) = W1 at *
    obtain ⟨r_o, q_o, r_i, q_i, -⟩ := HT.out.rules
    have z_o : w.heap.size + 1 + 1 < W1.heap.size := (HT.out.in_ 0 rfl rfl).2
    have z_i : w.heap.size + 1 < W1.heap.size := (HT.out.in_ 1 rfl rfl).2
    have z_k : w.heap.size < W1.heap.size := (HT.out.in_ 2 rfl rfl).2
    have f_k : ∀ i, W1.frozen? ⟨w.heap.size, i, none⟩ = false := fun i => by have := HT.out.heap 2 rfl; simp [World.frozen?, this]
    obtain ⟨xa2, hxa2⟩ : ∃ x, (k.set b 2)[a]? = some x := ⟨_, List.getElem?_eq_getElem (by have := Hk.out; simp; omega)⟩
    have c_a : W1.cell? ⟨w.heap.size, a, none⟩ = some (.int .i64 xa2) := kc_cell (HT.out.heap 2 rfl) (hxa2)
    refine ⟨?_, ?_⟩
    · simp only [Again, pick, List.getElem?_toArray, List.getElem?_cons_succ, List.getElem?_cons_zero]
      refine ⟨?_, ?_, trivial⟩
      all_goals (still_step; exact wpStill_nil rfl)
    refine plan_still ?_
    simp only [pick, List.getElem?_toArray, List.getElem?_cons_succ, List.getElem?_cons_zero]
    repeat still_step
    refine wpStill_nil ?_
    refine plan_loud ?_
    simp only [pick, List.getElem?_toArray, List.getElem?_cons_succ, List.getElem?_cons_zero]
    go_wp2_with fail
    clear r_o q_o r_i q_i z_o z_i z_k f_k c_a
    obtain ⟨T', K'⟩ := HT.out.put 2 a (.int .i64 2) rfl
    simp only [List.set_cons_succ, List.set_cons_zero] at T' K'
    replace HT := Lib.hid T'
    clear T' K'
    rw [kc_set] at HT
    generalize W1.setCell ⟨w.heap.size, a, none⟩ (.int .i64 2) = W2 at *
    refine ⟨trivial, ?_⟩
    refine plan_end (NoPanic.normal ?_)
    obtain ⟨T', K'⟩ := HT.out.drew'
    replace HT := Lib.hid T'
    clear T' K'
    generalize W2.drew = W3 at *
    have hfin := Hmc.out
    rw [later_get] at hfin
    rw [hfin] at HT
    clear hfin
    obtain ⟨r_o, q_o, -, -, r_k, q_k, -⟩ := HT.out.rules
    have z_o : w.heap.size + 1 + 1 < W3.heap.size := (HT.out.in_ 0 rfl rfl).2
    have z_k : w.heap.size < W3.heap.size := (HT.out.in_ 2 rfl rfl).2
    go_wp2_with fail
    clear r_o q_o r_k q_k z_o z_k
    have hF := HT.out.fill8 0 (.int .i64 m0) (.int .i64 m1) (.int .i64 m2) (.int .i64 m3) (.int .i64 m4) (.int .i64 m5) (.int .i64 m6) (.int .i64 m7) rfl rfl
    unfold fill8W at hF
    generalize ((((((((W3.setCell ⟨w.heap.size + 1 + 1, 0, none⟩ (.int .i64 m0)).setCell ⟨w.heap.size + 1 + 1, 1, none⟩ (.int .i64 m1)).setCell ⟨w.heap.size + 1 + 1, 2, none⟩ (.int .i64 m2)).setCell ⟨w.heap.size + 1 + 1, 3, none⟩ (.int .i64 m3)).setCell ⟨w.heap.size + 1 + 1, 4, none⟩ (.int .i64 m4)).setCell ⟨w.heap.size + 1 + 1, 5, none⟩ (.int .i64 m5)).setCell ⟨w.heap.size + 1 + 1, 6, none⟩ (.int .i64 m6)).setCell ⟨w.heap.size + 1 + 1, 7, none⟩ (.int .i64 m7)) = WZ at *
    obtain ⟨T', K', -⟩ := hF
    replace T' : St w.heap.size w WZ [.blk (w.heap.size + 1 + 1) #[.int .i64 m0, .int .i64 m1, .int .i64 m2, .int .i64 m3, .int .i64 m4, .int .i64 m5, .int .i64 m6, .int .i64 m7] 119, .blk (w.heap.size + 1) #[.int .i64 10, .int .i64 a, .int .i64 b, .int .i64 n] 42, .blk w.heap.size #[.int .i64 m0, .int .i64 m1, .int .i64 m2, .int .i64 m3, .int .i64 m4, .int .i64 m5, .int .i64 m6, .int .i64 m7] 119] := T'
    clear K' HT
    have HT := Lib.hid T'
    clear T'
    obtain ⟨r_o, q_o, -⟩ := HT.out.rules
    have z_o : w.heap.size + 1 + 1 < WZ.heap.size := (HT.out.in_ 0 rfl rfl).2
    refine bodyPost_ret (v := .agg #[.int .i64 m0, .int .i64 m1, .int .i64 m2, .int .i64 m3, .int .i64 m4, .int .i64 m5, .int .i64 m6, .int .i64 m7]) (by simp [results, Tryd.results97, go_sem, r_o]) rfl ⟨rfl, HT.out.below⟩
  · have T0 : St w.heap.size w ((((w.alloc (.cells #[.int .i64 k0, .int .i64 k1, .int .i64 k2, .int .i64 k3, .int .i64 k4, .int .i64 k5, .int .i64 k6, .int .i64 k7] 119)).alloc (.cells #[.int .i64 11, .int .i64 a, .int .i64 b, .int .i64 n] 42)).alloc (.cells #[.int .i64 0, .int .i64 0, .int .i64 0, .int .i64 0, .int .i64 0, .int .i64 0, .int .i64 0, .int .i64 0] 119))) [.blk (w.heap.size + 1 + 1) #[.int .i64 0, .int .i64 0, .int .i64 0, .int .i64 0, .int .i64 0, .int .i64 0, .int .i64 0, .int .i64 0] 119, .blk (w.heap.size + 1) #[.int .i64 11, .int .i64 a, .int .i64 b, .int .i64 n] 42, .blk w.heap.size #[.int .i64 k0, .int .i64 k1, .int .i64 k2, .int .i64 k3, .int .i64 k4, .int .i64 k5, .int .i64 k6, .int .i64 k7] 119] := ((((((St.start w (Nat.le_refl _)).new' #[.int .i64 k0, .int .i64 k1, .int .i64 k2, .int .i64 k3, .int .i64 k4, .int .i64 k5, .int .i64 k6, .int .i64 k7] 119 (w.heap.size) (by simp)).1).new' #[.int .i64 11, .int .i64 a, .int .i64 b, .int .i64 n] 42 (w.heap.size + 1) (by simp)).1).new' #[.int .i64 0, .int .i64 0, .int .i64 0, .int .i64 0, .int .i64 0, .int .i64 0, .int .i64 0, .int .i64 0] 119 (w.heap.size + 1 + 1) (by simp)).1
    go_enter Tryd.func97, Tryd.ntmps97
    go_upto_region 1 with fail
    generalize (((w.alloc (.cells #[.int .i64 k0, .int .i64 k1, .int .i64 k2, .int .i64 k3, .int .i64 k4, .int .i64 k5, .int .i64 k6, .int .i64 k7] 119)).alloc (.cells #[.int .i64 11, .int .i64 a, .int .i64 b, .int .i64 n] 42)).alloc (.cells #[.int .i64 0, .int .i64 0, .int .i64 0, .int .i64 0, .int .i64 0, .int .i64 0, .int .i64 0, .int .i64 0] 119)) = W at *
    rw [Hkc.out] at T0
    have HT := Lib.hid T0
    clear T0
    obtain ⟨r_o, q_o, r_i, q_i, -⟩ := HT.out.rules
    have z_o : w.heap.size + 1 + 1 < W.heap.size := (HT.out.in_ 0 rfl rfl).2
    have z_i : w.heap.size + 1 < W.heap.size := (HT.out.in_ 1 rfl rfl).2
    have z_k : w.heap.size < W.heap.size := (HT.out.in_ 2 rfl rfl).2
    have f_k : ∀ i, W.frozen? ⟨w.heap.size, i, none⟩ = false := fun i => by have := HT.out.heap 2 rfl; simp [World.frozen?, this]
    have c_a : W.cell? ⟨w.heap.size, a, none⟩ = some (.int .i64 xa) := kc_cell (HT.out.heap 2 rfl) (HXa.out)
    have c_b : W.cell? ⟨w.heap.size, b, none⟩ = some (.int .i64 xb) := kc_cell (HT.out.heap 2 rfl) (HXb.out)
    by_cases hab : a = b ∨ xb = 2
    · have Hab := Lib.hid hab
      rcases hab with hab | hab
      · have e1 : ((a : Int) == (b : Int)) = true := by rw [hab]; exact beq_self_eq_true _
        clear hab
        go_upto_region 28 with fail
        clear r_o q_o r_i q_i z_o z_i z_k f_k c_a c_b
        obtain ⟨T', K'⟩ := HT.out.put 2 a (.int .i64 2) rfl
        simp only [List.set_cons_succ, List.set_cons_zero] at T' K'
        replace HT := Lib.hid T'
        clear T' K'
        rw [kc_set] at HT
        generalize W.setCell ⟨w.heap.size, a, none⟩ (.int .i64 2) = W1 at *
        have hfin := Hmc.out
        rw [later_put1 (by rw [Hxb.out]; exact Hab.out)] at hfin
        rw [hfin] at HT
        clear hfin
        obtain ⟨r_o, q_o, -, -, r_k, q_k, -⟩ := HT.out.rules
        have z_o : w.heap.size + 1 + 1 < W1.heap.size := (HT.out.in_ 0 rfl rfl).2
        have z_k : w.heap.size < W1.heap.size := (HT.out.in_ 2 rfl rfl).2
        go_wp2_with fail
        clear r_o q_o r_k q_k z_o z_k
        have hF := HT.out.fill8 0 (.int .i64 m0) (.int .i64 m1) (.int .i64 m2) (.int .i64 m3) (.int .i64 m4) (.int .i64 m5) (.int .i64 m6) (.int .i64 m7) rfl rfl
        unfold fill8W at hF
        generalize ((((((((W1.setCell ⟨w.heap.size + 1 + 1, 0, none⟩ (.int .i64 m0)).setCell ⟨w.heap.size + 1 + 1, 1, none⟩ (.int .i64 m1)).setCell ⟨w.heap.size + 1 + 1, 2, none⟩ (.int .i64 m2)).setCell ⟨w.heap.size + 1 + 1, 3, none⟩ (.int .i64 m3)).setCell ⟨w.heap.size + 1 + 1, 4, none⟩ (.int .i64 m4)).setCell ⟨w.heap.size + 1 + 1, 5, none⟩ (.int .i64 m5)).setCell ⟨w.heap.size + 1 + 1, 6, none⟩ (.int .i64 m6)).setCell ⟨w.heap.size + 1 + 1, 7, none⟩ (.int .i64 m7)) = WZ at *
        obtain ⟨T', K', -⟩ := hF
        replace T' : St w.heap.size w WZ [.blk (w.heap.size + 1 + 1) #[.int .i64 m0, .int .i64 m1, .int .i64 m2, .int .i64 m3, .int .i64 m4, .int .i64 m5, .int .i64 m6, .int .i64 m7] 119, .blk (w.heap.size + 1) #[.int .i64 11, .int .i64 a, .int .i64 b, .int .i64 n] 42, .blk w.heap.size #[.int .i64 m0, .int .i64 m1, .int .i64 m2, .int .i64 m3, .int .i64 m4, .int .i64 m5, .int .i64 m6, .int .i64 m7] 119] := T'
        clear K' HT
        have HT := Lib.hid T'
        clear T'
        obtain ⟨r_o, q_o, -⟩ := HT.out.rules
        have z_o : w.heap.size + 1 + 1 < WZ.heap.size := (HT.out.in_ 0 rfl rfl).2
        refine bodyPost_ret (v := .agg #[.int .i64 m0, .int .i64 m1, .int .i64 m2, .int .i64 m3, .int .i64 m4, .int .i64 m5, .int .i64 m6, .int .i64 m7]) (by simp [results, Tryd.results97, go_sem, r_o]) rfl ⟨rfl, HT.out.below⟩
      · by_cases hab2 : a = b
        · have e1 : ((a : Int) == (b : Int)) = true := by rw [hab2]; exact beq_self_eq_true _
          clear hab2 hab
          go_upto_region 28 with fail
          clear r_o q_o r_i q_i z_o z_i z_k f_k c_a c_b
          obtain ⟨T', K'⟩ := HT.out.put 2 a (.int .i64 2) rfl
          simp only [List.set_cons_succ, List.set_cons_zero] at T' K'
          replace HT := Lib.hid T'
          clear T' K'
          rw [kc_set] at HT
          generalize W.setCell ⟨w.heap.size, a, none⟩ (.int .i64 2) = W1 at *
          have hfin := Hmc.out
          rw [later_put1 (by rw [Hxb.out]; exact Hab.out)] at hfin
          rw [hfin] at HT
          clear hfin
          obtain ⟨r_o, q_o, -, -, r_k, q_k, -⟩ := HT.out.rules
          have z_o : w.heap.size + 1 + 1 < W1.heap.size := (HT.out.in_ 0 rfl rfl).2
          have z_k : w.heap.size < W1.heap.size := (HT.out.in_ 2 rfl rfl).2
          go_wp2_with fail
          clear r_o q_o r_k q_k z_o z_k
          have hF := HT.out.fill8 0 (.int .i64 m0) (.int .i64 m1) (.int .i64 m2) (.int .i64 m3) (.int .i64 m4) (.int .i64 m5) (.int .i64 m6) (.int .i64 m7) rfl rfl
          unfold fill8W at hF
          generalize ((((((((W1.setCell ⟨w.heap.size + 1 + 1, 0, none⟩ (.int .i64 m0)).setCell ⟨w.heap.size + 1 + 1, 1, none⟩ (.int .i64 m1)).setCell ⟨w.heap.size + 1 + 1, 2, none⟩ (.int .i64 m2)).setCell ⟨w.heap.size + 1 + 1, 3, none⟩ (.int .i64 m3)).setCell ⟨w.heap.size + 1 + 1, 4, none⟩ (.int .i64 m4)).setCell ⟨w.heap.size + 1 + 1, 5, none⟩ (.int .i64 m5)).setCell ⟨w.heap.size + 1 + 1, 6, none⟩ (.int .i64 m6)).setCell ⟨w.heap.size + 1 + 1, 7, none⟩ (.int .i64 m7)) = WZ at *
          obtain ⟨T', K', -⟩ := hF
          replace T' : St w.heap.size w WZ [.blk (w.heap.size + 1 + 1) #[.int .i64 m0, .int .i64 m1, .int .i64 m2, .int .i64 m3, .int .i64 m4, .int .i64 m5, .int .i64 m6, .int .i64 m7] 119, .blk (w.heap.size + 1) #[.int .i64 11, .int .i64 a, .int .i64 b, .int .i64 n] 42, .blk w.heap.size #[.int .i64 m0, .int .i64 m1, .int .i64 m2, .int .i64 m3, .int .i64 m4, .int .i64 m5, .int .i64 m6, .int .i64 m7] 119] := T'
          clear K' HT
          have HT := Lib.hid T'
          clear T'
          obtain ⟨r_o, q_o, -⟩ := HT.out.rules
          have z_o : w.heap.size + 1 + 1 < WZ.heap.size := (HT.out.in_ 0 rfl rfl).2
          refine bodyPost_ret (v := .agg #[.int .i64 m0, .int .i64 m1, .int .i64 m2, .int .i64 m3, .int .i64 m4, .int .i64 m5, .int .i64 m6, .int .i64 m7]) (by simp [results, Tryd.results97, go_sem, r_o]) rfl ⟨rfl, HT.out.below⟩
        · have e1 : ((a : Int) == (b : Int)) = false := by simp; omega
          have e2 : (xb == 2) = true := by simpa using hab
          clear hab hab2
          go_upto_region 28 with fail
          clear r_o q_o r_i q_i z_o z_i z_k f_k c_a c_b
          obtain ⟨T', K'⟩ := HT.out.put 2 a (.int .i64 2) rfl
          simp only [List.set_cons_succ, List.set_cons_zero] at T' K'
          replace HT := Lib.hid T'
          clear T' K'
          rw [kc_set] at HT
          generalize W.setCell ⟨w.heap.size, a, none⟩ (.int .i64 2) = W1 at *
          have hfin := Hmc.out
          rw [later_put1 (by rw [Hxb.out]; exact Hab.out)] at hfin
          rw [hfin] at HT
          clear hfin
          obtain ⟨r_o, q_o, -, -, r_k, q_k, -⟩ := HT.out.rules
          have z_o : w.heap.size + 1 + 1 < W1.heap.size := (HT.out.in_ 0 rfl rfl).2
          have z_k : w.heap.size < W1.heap.size := (HT.out.in_ 2 rfl rfl).2
          go_wp2_with fail
          clear r_o q_o r_k q_k z_o z_k
          have hF := HT.out.fill8 0 (.int .i64 m0) (.int .i64 m1) (.int .i64 m2) (.int .i64 m3) (.int .i64 m4) (.int .i64 m5) (.int .i64 m6) (.int .i64 m7) rfl rfl
          unfold fill8W at hF
          generalize ((((((((W1.setCell ⟨w.heap.size + 1 + 1, 0, none⟩ (.int .i64 m0)).setCell ⟨w.heap.size + 1 + 1, 1, none⟩ (.int .i64 m1)).setCell ⟨w.heap.size + 1 + 1, 2, none⟩ (.int .i64 m2)).setCell ⟨w.heap.size + 1 + 1, 3, none⟩ (.int .i64 m3)).setCell ⟨w.heap.size + 1 + 1, 4, none⟩ (.int .i64 m4)).setCell ⟨w.heap.size + 1 + 1, 5, none⟩ (.int .i64 m5)).setCell ⟨w.heap.size + 1 + 1, 6, none⟩ (.int .i64 m6)).setCell ⟨w.heap.size + 1 + 1, 7, none⟩ (.int .i64 m7)) = WZ at *
          obtain ⟨T', K', -⟩ := hF
          replace T' : St w.heap.size w WZ [.blk (w.heap.size + 1 + 1) #[.int .i64 m0, .int .i64 m1, .int .i64 m2, .int .i64 m3, .int .i64 m4, .int .i64 m5, .int .i64 m6, .int .i64 m7] 119, .blk (w.heap.size + 1) #[.int .i64 11, .int .i64 a, .int .i64 b, .int .i64 n] 42, .blk w.heap.size #[.int .i64 m0, .int .i64 m1, .int .i64 m2, .int .i64 m3, .int .i64 m4, .int .i64 m5, .int .i64 m6, .int .i64 m7] 119] := T'
          clear K' HT
          have HT := Lib.hid T'
          clear T'
          obtain ⟨r_o, q_o, -⟩ := HT.out.rules
          have z_o : w.heap.size + 1 + 1 < WZ.heap.size := (HT.out.in_ 0 rfl rfl).2
          refine bodyPost_ret (v := .agg #[.int .i64 m0, .int .i64 m1, .int .i64 m2, .int .i64 m3, .int .i64 m4, .int .i64 m5, .int .i64 m6, .int .i64 m7]) (by simp [results, Tryd.results97, go_sem, r_o]) rfl ⟨rfl, HT.out.below⟩
    · have Hab := Lib.hid hab
      have e1 : ((a : Int) == (b : Int)) = false := by simp; omega
      have e2 : (xb == 2) = false := by simp; omega
      clear hab
      go_upto_region 28 with fail
      clear r_o q_o r_i q_i z_o z_i z_k f_k c_a c_b
      obtain ⟨T', K'⟩ := HT.out.put 2 b (.int .i64 0) rfl
      simp only [List.set_cons_succ, List.set_cons_zero] at T' K'
      replace HT := Lib.hid T'
      clear T' K'
      rw [kc_set] at HT
      generalize W.setCell ⟨w.heap.size, b, none⟩ (.int .i64 0) = W1 at *
      have hfin := Hmc.out
      rw [later_put2 (by rw [Hxb.out]; exact Hab.out)] at hfin
      rw [hfin] at HT
      clear hfin
      obtain ⟨r_o, q_o, -, -, r_k, q_k, -⟩ := HT.out.rules
      have z_o : w.heap.size + 1 + 1 < W1.heap.size := (HT.out.in_ 0 rfl rfl).2
      have z_k : w.heap.size < W1.heap.size := (HT.out.in_ 2 rfl rfl).2
      go_wp2_with fail
      clear r_o q_o r_k q_k z_o z_k
      have hF := HT.out.fill8 0 (.int .i64 m0) (.int .i64 m1) (.int .i64 m2) (.int .i64 m3) (.int .i64 m4) (.int .i64 m5) (.int .i64 m6) (.int .i64 m7) rfl rfl
      unfold fill8W at hF
      generalize ((((((((W1.setCell ⟨w.heap.size + 1 + 1, 0, none⟩ (.int .i64 m0)).setCell ⟨w.heap.size + 1 + 1, 1, none⟩ (.int .i64 m1)).setCell ⟨w.heap.size + 1 + 1, 2, none⟩ (.int .i64 m2)).setCell ⟨w.heap.size + 1 + 1, 3, none⟩ (.int .i64 m3)).setCell ⟨w.heap.size + 1 + 1, 4, none⟩ (.int .i64 m4)).setCell ⟨w.heap.size + 1 + 1, 5, none⟩ (.int .i64 m5)).setCell ⟨w.heap.size + 1 + 1, 6, none⟩ (.int .i64 m6)).setCell ⟨w.heap.size + 1 + 1, 7, none⟩ (.int .i64 m7)) = WZ at *
      obtain ⟨T', K', -⟩ := hF
      replace T' : St w.heap.size w WZ [.blk (w.heap.size + 1 + 1) #[.int .i64 m0, .int .i64 m1, .int .i64 m2, .int .i64 m3, .int .i64 m4, .int .i64 m5, .int .i64 m6, .int .i64 m7] 119, .blk (w.heap.size + 1) #[.int .i64 11, .int .i64 a, .int .i64 b, .int .i64 n] 42, .blk w.heap.size #[.int .i64 m0, .int .i64 m1, .int .i64 m2, .int .i64 m3, .int .i64 m4, .int .i64 m5, .int .i64 m6, .int .i64 m7] 119] := T'
      clear K' HT
      have HT := Lib.hid T'
      clear T'
      obtain ⟨r_o, q_o, -⟩ := HT.out.rules
      have z_o : w.heap.size + 1 + 1 < WZ.heap.size := (HT.out.in_ 0 rfl rfl).2
      refine bodyPost_ret (v := .agg #[.int .i64 m0, .int .i64 m1, .int .i64 m2, .int .i64 m3, .int .i64 m4, .int .i64 m5, .int .i64 m6, .int .i64 m7]) (by simp [results, Tryd.results97, go_sem, r_o]) rfl ⟨rfl, HT.out.below⟩
  · have T0 : St w.heap.size w ((((w.alloc (.cells #[.int .i64 k0, .int .i64 k1, .int .i64 k2, .int .i64 k3, .int .i64 k4, .int .i64 k5, .int .i64 k6, .int .i64 k7] 119)).alloc (.cells #[.int .i64 12, .int .i64 a, .int .i64 b, .int .i64 n] 42)).alloc (.cells #[.int .i64 0, .int .i64 0, .int .i64 0, .int .i64 0, .int .i64 0, .int .i64 0, .int .i64 0, .int .i64 0] 119))) [.blk (w.heap.size + 1 + 1) #[.int .i64 0, .int .i64 0, .int .i64 0, .int .i64 0, .int .i64 0, .int .i64 0, .int .i64 0, .int .i64 0] 119, .blk (w.heap.size + 1) #[.int .i64 12, .int .i64 a, .int .i64 b, .int .i64 n] 42, .blk w.heap.size #[.int .i64 k0, .int .i64 k1, .int .i64 k2, .int .i64 k3, .int .i64 k4, .int .i64 k5, .int .i64 k6, .int .i64 k7] 119] := ((((((St.start w (Nat.le_refl _)).new' #[.int .i64 k0, .int .i64 k1, .int .i64 k2, .int .i64 k3, .int .i64 k4, .int .i64 k5, .int .i64 k6, .int .i64 k7] 119 (w.heap.size) (by simp)).1).new' #[.int .i64 12, .int .i64 a, .int .i64 b, .int .i64 n] 42 (w.heap.size + 1) (by simp)).1).new' #[.int .i64 0, .int .i64 0, .int .i64 0, .int .i64 0, .int .i64 0, .int .i64 0, .int .i64 0, .int .i64 0] 119 (w.heap.size + 1 + 1) (by simp)).1
    go_enter Tryd.func97, Tryd.ntmps97
    go_upto_region 1 with fail
    generalize (((w.alloc (.cells #[.int .i64 k0, .int .i64 k1, .int .i64 k2, .int .i64 k3, .int .i64 k4, .int .i64 k5, .int .i64 k6, .int .i64 k7] 119)).alloc (.cells #[.int .i64 12, .int .i64 a, .int .i64 b, .int .i64 n] 42)).alloc (.cells #[.int .i64 0, .int .i64 0, .int .i64 0, .int .i64 0, .int .i64 0, .int .i64 0, .int .i64 0, .int .i64 0] 119)) = W at *
    rw [Hkc.out] at T0
    have HT := Lib.hid T0
    clear T0
    obtain ⟨r_o, q_o, r_i, q_i, -⟩ := HT.out.rules
    have z_o : w.heap.size + 1 + 1 < W.heap.size := (HT.out.in_ 0 rfl rfl).2
    have z_i : w.heap.size + 1 < W.heap.size := (HT.out.in_ 1 rfl rfl).2
    have z_k : w.heap.size < W.heap.size := (HT.out.in_ 2 rfl rfl).2
    have f_k : ∀ i, W.frozen? ⟨w.heap.size, i, none⟩ = false := fun i => by have := HT.out.heap 2 rfl; simp [World.frozen?, this]
    have c_a : W.cell? ⟨w.heap.size, a, none⟩ = some (.int .i64 xa) := kc_cell (HT.out.heap 2 rfl) (HXa.out)
    have c_b : W.cell? ⟨w.heap.size, b, none⟩ = some (.int .i64 xb) := kc_cell (HT.out.heap 2 rfl) (HXb.out)
    by_cases h3 : xb = 3
    · have H3 := Lib.hid h3
      have e1 : (xb == 3) = true := by simpa using h3
      clear h3
      go_upto_region 21 with fail
      clear r_o q_o r_i q_i z_o z_i z_k f_k c_a c_b
      obtain ⟨T', K'⟩ := HT.out.put 2 b (.int .i64 0) rfl
      simp only [List.set_cons_succ, List.set_cons_zero] at T' K'
      replace HT := Lib.hid T'
      clear T' K'
      rw [kc_set] at HT
      generalize W.setCell ⟨w.heap.size, b, none⟩ (.int .i64 0) = W1 at *
      obtain ⟨r_o, q_o, r_i, q_i, -⟩ := HT.out.rules
      have z_o : w.heap.size + 1 + 1 < W1.heap.size := (HT.out.in_ 0 rfl rfl).2
      have z_i : w.heap.size + 1 < W1.heap.size := (HT.out.in_ 1 rfl rfl).2
      have z_k : w.heap.size < W1.heap.size := (HT.out.in_ 2 rfl rfl).2
      have f_k : ∀ i, W1.frozen? ⟨w.heap.size, i, none⟩ = false := fun i => by have := HT.out.heap 2 rfl; simp [World.frozen?, this]
      obtain ⟨xa2, hxa2⟩ : ∃ x, (k.set b 0)[a]? = some x := ⟨_, List.getElem?_eq_getElem (by have := Hk.out; simp; omega)⟩
      have c_a : W1.cell? ⟨w.heap.size, a, none⟩ = some (.int .i64 xa2) := kc_cell (HT.out.heap 2 rfl) (hxa2)
      go_upto_region 28 with fail
      clear r_o q_o r_i q_i z_o z_i z_k f_k c_a
      obtain ⟨T', K'⟩ := HT.out.put 2 a (.int .i64 xb) rfl
      simp only [List.set_cons_succ, List.set_cons_zero] at T' K'
      replace HT := Lib.hid T'
      clear T' K'
      rw [kc_set] at HT
      generalize W1.setCell ⟨w.heap.size, a, none⟩ (.int .i64 xb) = W2 at *
      have hfin := Hmc.out
      rw [later_move1 (by rw [Hxb.out]; exact H3.out), Hxb.out] at hfin
      rw [hfin] at HT
      clear hfin
      obtain ⟨r_o, q_o, -, -, r_k, q_k, -⟩ := HT.out.rules
      have z_o : w.heap.size + 1 + 1 < W2.heap.size := (HT.out.in_ 0 rfl rfl).2
      have z_k : w.heap.size < W2.heap.size := (HT.out.in_ 2 rfl rfl).2
      go_wp2_with fail
      clear r_o q_o r_k q_k z_o z_k
      have hF := HT.out.fill8 0 (.int .i64 m0) (.int .i64 m1) (.int .i64 m2) (.int .i64 m3) (.int .i64 m4) (.int .i64 m5) (.int .i64 m6) (.int .i64 m7) rfl rfl
      unfold fill8W at hF
      generalize ((((((((W2.setCell ⟨w.heap.size + 1 + 1, 0, none⟩ (.int .i64 m0)).setCell ⟨w.heap.size + 1 + 1, 1, none⟩ (.int .i64 m1)).setCell ⟨w.heap.size + 1 + 1, 2, none⟩ (.int .i64 m2)).setCell ⟨w.heap.size + 1 + 1, 3, none⟩ (.int .i64 m3)).setCell ⟨w.heap.size + 1 + 1, 4, none⟩ (.int .i64 m4)).setCell ⟨w.heap.size + 1 + 1, 5, none⟩ (.int .i64 m5)).setCell ⟨w.heap.size + 1 + 1, 6, none⟩ (.int .i64 m6)).setCell ⟨w.heap.size + 1 + 1, 7, none⟩ (.int .i64 m7)) = WZ at *
      obtain ⟨T', K', -⟩ := hF
      replace T' : St w.heap.size w WZ [.blk (w.heap.size + 1 + 1) #[.int .i64 m0, .int .i64 m1, .int .i64 m2, .int .i64 m3, .int .i64 m4, .int .i64 m5, .int .i64 m6, .int .i64 m7] 119, .blk (w.heap.size + 1) #[.int .i64 12, .int .i64 a, .int .i64 b, .int .i64 n] 42, .blk w.heap.size #[.int .i64 m0, .int .i64 m1, .int .i64 m2, .int .i64 m3, .int .i64 m4, .int .i64 m5, .int .i64 m6, .int .i64 m7] 119] := T'
      clear K' HT
      have HT := Lib.hid T'
      clear T'
      obtain ⟨r_o, q_o, -⟩ := HT.out.rules
      have z_o : w.heap.size + 1 + 1 < WZ.heap.size := (HT.out.in_ 0 rfl rfl).2
      refine bodyPost_ret (v := .agg #[.int .i64 m0, .int .i64 m1, .int .i64 m2, .int .i64 m3, .int .i64 m4, .int .i64 m5, .int .i64 m6, .int .i64 m7]) (by simp [results, Tryd.results97, go_sem, r_o]) rfl ⟨rfl, HT.out.below⟩
    · have H3 := Lib.hid h3
      have e1 : (xb == 3) = false := by simpa using h3
      clear h3
      go_upto_region 28 with fail
      clear r_o q_o r_i q_i z_o z_i z_k f_k c_a c_b
      obtain ⟨T', K'⟩ := HT.out.put 2 a (.int .i64 xb) rfl
      simp only [List.set_cons_succ, List.set_cons_zero] at T' K'
      replace HT := Lib.hid T'
      clear T' K'
      rw [kc_set] at HT
      generalize W.setCell ⟨w.heap.size, a, none⟩ (.int .i64 xb) = W1 at *
      have hfin := Hmc.out
      rw [later_move2 (by rw [Hxb.out]; exact H3.out), Hxb.out] at hfin
      rw [hfin] at HT
      clear hfin
      obtain ⟨r_o, q_o, -, -, r_k, q_k, -⟩ := HT.out.rules
      have z_o : w.heap.size + 1 + 1 < W1.heap.size := (HT.out.in_ 0 rfl rfl).2
      have z_k : w.heap.size < W1.heap.size := (HT.out.in_ 2 rfl rfl).2
      go_wp2_with fail
      clear r_o q_o r_k q_k z_o z_k
      have hF := HT.out.fill8 0 (.int .i64 m0) (.int .i64 m1) (.int .i64 m2) (.int .i64 m3) (.int .i64 m4) (.int .i64 m5) (.int .i64 m6) (.int .i64 m7) rfl rfl
      unfold fill8W at hF
      generalize ((((((((W1.setCell ⟨w.heap.size + 1 + 1, 0, none⟩ (.int .i64 m0)).setCell ⟨w.heap.size + 1 + 1, 1, none⟩ (.int .i64 m1)).setCell ⟨w.heap.size + 1 + 1, 2, none⟩ (.int .i64 m2)).setCell ⟨w.heap.size + 1 + 1, 3, none⟩ (.int .i64 m3)).setCell ⟨w.heap.size + 1 + 1, 4, none⟩ (.int .i64 m4)).setCell ⟨w.heap.size + 1 + 1, 5, none⟩ (.int .i64 m5)).setCell ⟨w.heap.size + 1 + 1, 6, none⟩ (.int .i64 m6)).setCell ⟨w.heap.size + 1 + 1, 7, none⟩ (.int .i64 m7)) = WZ at *
      obtain ⟨T', K', -⟩ := hF
      replace T' : St w.heap.size w WZ [.blk (w.heap.size + 1 + 1) #[.int .i64 m0, .int .i64 m1, .int .i64 m2, .int .i64 m3, .int .i64 m4, .int .i64 m5, .int .i64 m6, .int .i64 m7] 119, .blk (w.heap.size + 1) #[.int .i64 12, .int .i64 a, .int .i64 b, .int .i64 n] 42, .blk w.heap.size #[.int .i64 m0, .int .i64 m1, .int .i64 m2, .int .i64 m3, .int .i64 m4, .int .i64 m5, .int .i64 m6, .int .i64 m7] 119] := T'
      clear K' HT
      have HT := Lib.hid T'
      clear T'
      obtain ⟨r_o, q_o, -⟩ := HT.out.rules
      have z_o : w.heap.size + 1 + 1 < WZ.heap.size := (HT.out.in_ 0 rfl rfl).2
      refine bodyPost_ret (v := .agg #[.int .i64 m0, .int .i64 m1, .int .i64 m2, .int .i64 m3, .int .i64 m4, .int .i64 m5, .int .i64 m6, .int .i64 m7]) (by simp [results, Tryd.results97, go_sem, r_o]) rfl ⟨rfl, HT.out.below⟩
  · have T0 : St w.heap.size w ((((w.alloc (.cells #[.int .i64 k0, .int .i64 k1, .int .i64 k2, .int .i64 k3, .int .i64 k4, .int .i64 k5, .int .i64 k6, .int .i64 k7] 119)).alloc (.cells #[.int .i64 13, .int .i64 a, .int .i64 b, .int .i64 n] 42)).alloc (.cells #[.int .i64 0, .int .i64 0, .int .i64 0, .int .i64 0, .int .i64 0, .int .i64 0, .int .i64 0, .int .i64 0] 119))) [.blk (w.heap.size + 1 + 1) #[.int .i64 0, .int .i64 0, .int .i64 0, .int .i64 0, .int .i64 0, .int .i64 0, .int .i64 0, .int .i64 0] 119, .blk (w.heap.size + 1) #[.int .i64 13, .int .i64 a, .int .i64 b, .int .i64 n] 42, .blk w.heap.size #[.int .i64 k0, .int .i64 k1, .int .i64 k2, .int .i64 k3, .int .i64 k4, .int .i64 k5, .int .i64 k6, .int .i64 k7] 119] := ((((((St.start w (Nat.le_refl _)).new' #[.int .i64 k0, .int .i64 k1, .int .i64 k2, .int .i64 k3, .int .i64 k4, .int .i64 k5, .int .i64 k6, .int .i64 k7] 119 (w.heap.size) (by simp)).1).new' #[.int .i64 13, .int .i64 a, .int .i64 b, .int .i64 n] 42 (w.heap.size + 1) (by simp)).1).new' #[.int .i64 0, .int .i64 0, .int .i64 0, .int .i64 0, .int .i64 0, .int .i64 0, .int .i64 0, .int .i64 0] 119 (w.heap.size + 1 + 1) (by simp)).1
    go_enter Tryd.func97, Tryd.ntmps97
    go_upto_region 1 with fail
    generalize (((w.alloc (.cells #[.int .i64 k0, .int .i64 k1, .int .i64 k2, .int .i64 k3, .int .i64 k4, .int .i64 k5, .int .i64 k6, .int .i64 k7] 119)).alloc (.cells #[.int .i64 13, .int .i64 a, .int .i64 b, .int .i64 n] 42)).alloc (.cells #[.int .i64 0, .int .i64 0, .int .i64 0, .int .i64 0, .int .i64 0, .int .i64 0, .int .i64 0, .int .i64 0] 119)) = W at *
    rw [Hkc.out] at T0
    have HT := Lib.hid T0
    clear T0
    obtain ⟨r_o, q_o, r_i, q_i, -⟩ := HT.out.rules
    have z_o : w.heap.size + 1 + 1 < W.heap.size := (HT.out.in_ 0 rfl rfl).2
    have z_i : w.heap.size + 1 < W.heap.size := (HT.out.in_ 1 rfl rfl).2
    have z_k : w.heap.size < W.heap.size := (HT.out.in_ 2 rfl rfl).2
    have f_k : ∀ i, W.frozen? ⟨w.heap.size, i, none⟩ = false := fun i => by have := HT.out.heap 2 rfl; simp [World.frozen?, this]
    have c_a : W.cell? ⟨w.heap.size, a, none⟩ = some (.int .i64 xa) := kc_cell (HT.out.heap 2 rfl) (HXa.out)
    go_upto_region 28 with fail
    clear r_o q_o r_i q_i z_o z_i z_k f_k c_a
    obtain ⟨T', K'⟩ := HT.out.put 2 a (.int .i64 0) rfl
    simp only [List.set_cons_succ, List.set_cons_zero] at T' K'
    replace HT := Lib.hid T'
    clear T' K'
    rw [kc_set] at HT
    generalize W.setCell ⟨w.heap.size, a, none⟩ (.int .i64 0) = W1 at *
    have hfin := Hmc.out
    rw [later_gone (by decide)] at hfin
    rw [hfin] at HT
    clear hfin
    obtain ⟨r_o, q_o, -, -, r_k, q_k, -⟩ := HT.out.rules
    have z_o : w.heap.size + 1 + 1 < W1.heap.size := (HT.out.in_ 0 rfl rfl).2
    have z_k : w.heap.size < W1.heap.size := (HT.out.in_ 2 rfl rfl).2
    go_wp2_with fail
    clear r_o q_o r_k q_k z_o z_k
    have hF := HT.out.fill8 0 (.int .i64 m0) (.int .i64 m1) (.int .i64 m2) (.int .i64 m3) (.int .i64 m4) (.int .i64 m5) (.int .i64 m6) (.int .i64 m7) rfl rfl
    unfold fill8W at hF
    generalize ((((((((W1.setCell ⟨w.heap.size + 1 + 1, 0, none⟩ (.int .i64 m0)).setCell ⟨w.heap.size + 1 + 1, 1, none⟩ (.int .i64 m1)).setCell ⟨w.heap.size + 1 + 1, 2, none⟩ (.int .i64 m2)).setCell ⟨w.heap.size + 1 + 1, 3, none⟩ (.int .i64 m3)).setCell ⟨w.heap.size + 1 + 1, 4, none⟩ (.int .i64 m4)).setCell ⟨w.heap.size + 1 + 1, 5, none⟩ (.int .i64 m5)).setCell ⟨w.heap.size + 1 + 1, 6, none⟩ (.int .i64 m6)).setCell ⟨w.heap.size + 1 + 1, 7, none⟩ (.int .i64 m7)) = WZ at *
    obtain ⟨T', K', -⟩ := hF
    replace T' : St w.heap.size w WZ [.blk (w.heap.size + 1 + 1) #[.int .i64 m0, .int .i64 m1, .int .i64 m2, .int .i64 m3, .int .i64 m4, .int .i64 m5, .int .i64 m6, .int .i64 m7] 119, .blk (w.heap.size + 1) #[.int .i64 13, .int .i64 a, .int .i64 b, .int .i64 n] 42, .blk w.heap.size #[.int .i64 m0, .int .i64 m1, .int .i64 m2, .int .i64 m3, .int .i64 m4, .int .i64 m5, .int .i64 m6, .int .i64 m7] 119] := T'
    clear K' HT
    have HT := Lib.hid T'
    clear T'
    obtain ⟨r_o, q_o, -⟩ := HT.out.rules
    have z_o : w.heap.size + 1 + 1 < WZ.heap.size := (HT.out.in_ 0 rfl rfl).2
    refine bodyPost_ret (v := .agg #[.int .i64 m0, .int .i64 m1, .int .i64 m2, .int .i64 m3, .int .i64 m4, .int .i64 m5, .int .i64 m6, .int .i64 m7]) (by simp [results, Tryd.results97, go_sem, r_o]) rfl ⟨rfl, HT.out.below⟩
  · have T0 : St w.heap.size w ((((w.alloc (.cells #[.int .i64 k0, .int .i64 k1, .int .i64 k2, .int .i64 k3, .int .i64 k4, .int .i64 k5, .int .i64 k6, .int .i64 k7] 119)).alloc (.cells #[.int .i64 14, .int .i64 a, .int .i64 b, .int .i64 n] 42)).alloc (.cells #[.int .i64 0, .int .i64 0, .int .i64 0, .int .i64 0, .int .i64 0, .int .i64 0, .int .i64 0, .int .i64 0] 119))) [.blk (w.heap.size + 1 + 1) #[.int .i64 0, .int .i64 0, .int .i64 0, .int .i64 0, .int .i64 0, .int .i64 0, .int .i64 0, .int .i64 0] 119, .blk (w.heap.size + 1) #[.int .i64 14, .int .i64 a, .int .i64 b, .int .i64 n] 42, .blk w.heap.size #[.int .i64 k0, .int .i64 k1, .int .i64 k2, .int .i64 k3, .int .i64 k4, .int .i64 k5, .int .i64 k6, .int .i64 k7] 119] := ((((((St.start w (Nat.le_refl _)).new' #[.int .i64 k0, .int .i64 k1, .int .i64 k2, .int .i64 k3, .int .i64 k4, .int .i64 k5, .int .i64 k6, .int .i64 k7] 119 (w.heap.size) (by simp)).1).new' #[.int .i64 14, .int .i64 a, .int .i64 b, .int .i64 n] 42 (w.heap.size + 1) (by simp)).1).new' #[.int .i64 0, .int .i64 0, .int .i64 0, .int .i64 0, .int .i64 0, .int .i64 0, .int .i64 0, .int .i64 0] 119 (w.heap.size + 1 + 1) (by simp)).1
    go_enter Tryd.func97, Tryd.ntmps97
    go_upto_region 1 with fail
    generalize (((w.alloc (.cells #[.int .i64 k0, .int .i64 k1, .int .i64 k2, .int .i64 k3, .int .i64 k4, .int .i64 k5, .int .i64 k6, .int .i64 k7] 119)).alloc (.cells #[.int .i64 14, .int .i64 a, .int .i64 b, .int .i64 n] 42)).alloc (.cells #[.int .i64 0, .int .i64 0, .int .i64 0, .int .i64 0, .int .i64 0, .int .i64 0, .int .i64 0, .int .i64 0] 119)) = W at *
    rw [Hkc.out] at T0
    have HT := Lib.hid T0
    clear T0
    obtain ⟨r_o, q_o, r_i, q_i, -⟩ := HT.out.rules
    have z_o : w.heap.size + 1 + 1 < W.heap.size := (HT.out.in_ 0 rfl rfl).2
    have z_i : w.heap.size + 1 < W.heap.size := (HT.out.in_ 1 rfl rfl).2
    have z_k : w.heap.size < W.heap.size := (HT.out.in_ 2 rfl rfl).2
    have f_k : ∀ i, W.frozen? ⟨w.heap.size, i, none⟩ = false := fun i => by have := HT.out.heap 2 rfl; simp [World.frozen?, this]
    go_upto_region 28 with fail
    have hfin := Hmc.out
    rw [later_no (by decide)] at hfin
    rw [hfin] at HT
    clear hfin
    clear r_o q_o r_i q_i z_o z_i z_k f_k
    obtain ⟨r_o, q_o, -, -, r_k, q_k, -⟩ := HT.out.rules
    have z_o : w.heap.size + 1 + 1 < W.heap.size := (HT.out.in_ 0 rfl rfl).2
    have z_k : w.heap.size < W.heap.size := (HT.out.in_ 2 rfl rfl).2
    go_wp2_with fail
    clear r_o q_o r_k q_k z_o z_k
    have hF := HT.out.fill8 0 (.int .i64 m0) (.int .i64 m1) (.int .i64 m2) (.int .i64 m3) (.int .i64 m4) (.int .i64 m5) (.int .i64 m6) (.int .i64 m7) rfl rfl
    unfold fill8W at hF
    generalize ((((((((W.setCell ⟨w.heap.size + 1 + 1, 0, none⟩ (.int .i64 m0)).setCell ⟨w.heap.size + 1 + 1, 1, none⟩ (.int .i64 m1)).setCell ⟨w.heap.size + 1 + 1, 2, none⟩ (.int .i64 m2)).setCell ⟨w.heap.size + 1 + 1, 3, none⟩ (.int .i64 m3)).setCell ⟨w.heap.size + 1 + 1, 4, none⟩ (.int .i64 m4)).setCell ⟨w.heap.size + 1 + 1, 5, none⟩ (.int .i64 m5)).setCell ⟨w.heap.size + 1 + 1, 6, none⟩ (.int .i64 m6)).setCell ⟨w.heap.size + 1 + 1, 7, none⟩ (.int .i64 m7)) = WZ at *
    obtain ⟨T', K', -⟩ := hF
    replace T' : St w.heap.size w WZ [.blk (w.heap.size + 1 + 1) #[.int .i64 m0, .int .i64 m1, .int .i64 m2, .int .i64 m3, .int .i64 m4, .int .i64 m5, .int .i64 m6, .int .i64 m7] 119, .blk (w.heap.size + 1) #[.int .i64 14, .int .i64 a, .int .i64 b, .int .i64 n] 42, .blk w.heap.size #[.int .i64 m0, .int .i64 m1, .int .i64 m2, .int .i64 m3, .int .i64 m4, .int .i64 m5, .int .i64 m6, .int .i64 m7] 119] := T'
    clear K' HT
    have HT := Lib.hid T'
    clear T'
    obtain ⟨r_o, q_o, -⟩ := HT.out.rules
    have z_o : w.heap.size + 1 + 1 < WZ.heap.size := (HT.out.in_ 0 rfl rfl).2
    refine bodyPost_ret (v := .agg #[.int .i64 m0, .int .i64 m1, .int .i64 m2, .int .i64 m3, .int .i64 m4, .int .i64 m5, .int .i64 m6, .int .i64 m7]) (by simp [results, Tryd.results97, go_sem, r_o]) rfl ⟨rfl, HT.out.below⟩
  · have T0 : St w.heap.size w ((((w.alloc (.cells #[.int .i64 k0, .int .i64 k1, .int .i64 k2, .int .i64 k3, .int .i64 k4, .int .i64 k5, .int .i64 k6, .int .i64 k7] 119)).alloc (.cells #[.int .i64 15, .int .i64 a, .int .i64 b, .int .i64 n] 42)).alloc (.cells #[.int .i64 0, .int .i64 0, .int .i64 0, .int .i64 0, .int .i64 0, .int .i64 0, .int .i64 0, .int .i64 0] 119))) [.blk (w.heap.size + 1 + 1) #[.int .i64 0, .int .i64 0, .int .i64 0, .int .i64 0, .int .i64 0, .int .i64 0, .int .i64 0, .int .i64 0] 119, .blk (w.heap.size + 1) #[.int .i64 15, .int .i64 a, .int .i64 b, .int .i64 n] 42, .blk w.heap.size #[.int .i64 k0, .int .i64 k1, .int .i64 k2, .int .i64 k3, .int .i64 k4, .int .i64 k5, .int .i64 k6, .int .i64 k7] 119] := ((((((St.start w (Nat.le_refl _)).new' #[.int .i64 k0, .int .i64 k1, .int .i64 k2, .int .i64 k3, .int .i64 k4, .int .i64 k5, .int .i64 k6, .int .i64 k7] 119 (w.heap.size) (by simp)).1).new' #[.int .i64 15, .int .i64 a, .int .i64 b, .int .i64 n] 42 (w.heap.size + 1) (by simp)).1).new' #[.int .i64 0, .int .i64 0, .int .i64 0, .int .i64 0, .int .i64 0, .int .i64 0, .int .i64 0, .int .i64 0] 119 (w.heap.size + 1 + 1) (by simp)).1
    go_enter Tryd.func97, Tryd.ntmps97
    go_upto_region 1 with fail
    generalize (((w.alloc (.cells #[.int .i64 k0, .int .i64 k1, .int .i64 k2, .int .i64 k3, .int .i64 k4, .int .i64 k5, .int .i64 k6, .int .i64 k7] 119)).alloc (.cells #[.int .i64 15, .int .i64 a, .int .i64 b, .int .i64 n] 42)).alloc (.cells #[.int .i64 0, .int .i64 0, .int .i64 0, .int .i64 0, .int .i64 0, .int .i64 0, .int .i64 0, .int .i64 0] 119)) = W at *
    rw [Hkc.out] at T0
    have HT := Lib.hid T0
    clear T0
    obtain ⟨r_o, q_o, r_i, q_i, -⟩ := HT.out.rules
    have z_o : w.heap.size + 1 + 1 < W.heap.size := (HT.out.in_ 0 rfl rfl).2
    have z_i : w.heap.size + 1 < W.heap.size := (HT.out.in_ 1 rfl rfl).2
    have z_k : w.heap.size < W.heap.size := (HT.out.in_ 2 rfl rfl).2
    have f_k : ∀ i, W.frozen? ⟨w.heap.size, i, none⟩ = false := fun i => by have := HT.out.heap 2 rfl; simp [World.frozen?, this]
    go_upto_region 28 with fail
    have hfin := Hmc.out
    rw [later_no (by decide)] at hfin
    rw [hfin] at HT
    clear hfin
    clear r_o q_o r_i q_i z_o z_i z_k f_k
    obtain ⟨r_o, q_o, -, -, r_k, q_k, -⟩ := HT.out.rules
    have z_o : w.heap.size + 1 + 1 < W.heap.size := (HT.out.in_ 0 rfl rfl).2
    have z_k : w.heap.size < W.heap.size := (HT.out.in_ 2 rfl rfl).2
    go_wp2_with fail
    clear r_o q_o r_k q_k z_o z_k
    have hF := HT.out.fill8 0 (.int .i64 m0) (.int .i64 m1) (.int .i64 m2) (.int .i64 m3) (.int .i64 m4) (.int .i64 m5) (.int .i64 m6) (.int .i64 m7) rfl rfl
    unfold fill8W at hF
    generalize ((((((((W.setCell ⟨w.heap.size + 1 + 1, 0, none⟩ (.int .i64 m0)).setCell ⟨w.heap.size + 1 + 1, 1, none⟩ (.int .i64 m1)).setCell ⟨w.heap.size + 1 + 1, 2, none⟩ (.int .i64 m2)).setCell ⟨w.heap.size + 1 + 1, 3, none⟩ (.int .i64 m3)).setCell ⟨w.heap.size + 1 + 1, 4, none⟩ (.int .i64 m4)).setCell ⟨w.heap.size + 1 + 1, 5, none⟩ (.int .i64 m5)).setCell ⟨w.heap.size + 1 + 1, 6, none⟩ (.int .i64 m6)).setCell ⟨w.heap.size + 1 + 1, 7, none⟩ (.int .i64 m7)) = WZ at *
    obtain ⟨T', K', -⟩ := hF
    replace T' : St w.heap.size w WZ [.blk (w.heap.size + 1 + 1) #[.int .i64 m0, .int .i64 m1, .int .i64 m2, .int .i64 m3, .int .i64 m4, .int .i64 m5, .int .i64 m6, .int .i64 m7] 119, .blk (w.heap.size + 1) #[.int .i64 15, .int .i64 a, .int .i64 b, .int .i64 n] 42, .blk w.heap.size #[.int .i64 m0, .int .i64 m1, .int .i64 m2, .int .i64 m3, .int .i64 m4, .int .i64 m5, .int .i64 m6, .int .i64 m7] 119] := T'
    clear K' HT
    have HT := Lib.hid T'
    clear T'
    obtain ⟨r_o, q_o, -⟩ := HT.out.rules
    have z_o : w.heap.size + 1 + 1 < WZ.heap.size := (HT.out.in_ 0 rfl rfl).2
    refine bodyPost_ret (v := .agg #[.int .i64 m0, .int .i64 m1, .int .i64 m2, .int .i64 m3, .int .i64 m4, .int .i64 m5, .int .i64 m6, .int .i64 m7]) (by simp [results, Tryd.results97, go_sem, r_o]) rfl ⟨rfl, HT.out.below⟩
  · have T0 : St w.heap.size w ((((w.alloc (.cells #[.int .i64 k0, .int .i64 k1, .int .i64 k2, .int .i64 k3, .int .i64 k4, .int .i64 k5, .int .i64 k6, .int .i64 k7] 119)).alloc (.cells #[.int .i64 16, .int .i64 a, .int .i64 b, .int .i64 n] 42)).alloc (.cells #[.int .i64 0, .int .i64 0, .int .i64 0, .int .i64 0, .int .i64 0, .int .i64 0, .int .i64 0, .int .i64 0] 119))) [.blk (w.heap.size + 1 + 1) #[.int .i64 0, .int .i64 0, .int .i64 0, .int .i64 0, .int .i64 0, .int .i64 0, .int .i64 0, .int .i64 0] 119, .blk (w.heap.size + 1) #[.int .i64 16, .int .i64 a, .int .i64 b, .int .i64 n] 42, .blk w.heap.size #[.int .i64 k0, .int .i64 k1, .int .i64 k2, .int .i64 k3, .int .i64 k4, .int .i64 k5, .int .i64 k6, .int .i64 k7] 119] := ((((((St.start w (Nat.le_refl _)).new' #[.int .i64 k0, .int .i64 k1, .int .i64 k2, .int .i64 k3, .int .i64 k4, .int .i64 k5, .int .i64 k6, .int .i64 k7] 119 (w.heap.size) (by simp)).1).new' #[.int .i64 16, .int .i64 a, .int .i64 b, .int .i64 n] 42 (w.heap.size + 1) (by simp)).1).new' #[.int .i64 0, .int .i64 0, .int .i64 0, .int .i64 0, .int .i64 0, .int .i64 0, .int .i64 0, .int .i64 0] 119 (w.heap.size + 1 + 1) (by simp)).1
    go_enter Tryd.func97, Tryd.ntmps97
    go_upto_region 1 with fail
    generalize (((w.alloc (.cells #[.int .i64 k0, .int .i64 k1, .int .i64 k2, .int .i64 k3, .int .i64 k4, .int .i64 k5, .int .i64 k6, .int .i64 k7] 119)).alloc (.cells #[.int .i64 16, .int .i64 a, .int .i64 b, .int .i64 n] 42)).alloc (.cells #[.int .i64 0, .int .i64 0, .int .i64 0, .int .i64 0, .int .i64 0, .int .i64 0, .int .i64 0, .int .i64 0] 119)) = W at *
    rw [Hkc.out] at T0
    have HT := Lib.hid T0
    clear T0
    obtain ⟨r_o, q_o, r_i, q_i, -⟩ := HT.out.rules
    have z_o : w.heap.size + 1 + 1 < W.heap.size := (HT.out.in_ 0 rfl rfl).2
    have z_i : w.heap.size + 1 < W.heap.size := (HT.out.in_ 1 rfl rfl).2
    have z_k : w.heap.size < W.heap.size := (HT.out.in_ 2 rfl rfl).2
    have f_k : ∀ i, W.frozen? ⟨w.heap.size, i, none⟩ = false := fun i => by have := HT.out.heap 2 rfl; simp [World.frozen?, this]
    have c_a : W.cell? ⟨w.heap.size, a, none⟩ = some (.int .i64 xa) := kc_cell (HT.out.heap 2 rfl) (HXa.out)
    go_upto_region 28 with fail
    clear r_o q_o r_i q_i z_o z_i z_k f_k c_a
    obtain ⟨T', K'⟩ := HT.out.put 2 a (.int .i64 1) rfl
    simp only [List.set_cons_succ, List.set_cons_zero] at T' K'
    replace HT := Lib.hid T'
    clear T' K'
    rw [kc_set] at HT
    generalize W.setCell ⟨w.heap.size, a, none⟩ (.int .i64 1) = W1 at *
    have hfin := Hmc.out
    rw [later_one (by decide)] at hfin
    rw [hfin] at HT
    clear hfin
    obtain ⟨r_o, q_o, -, -, r_k, q_k, -⟩ := HT.out.rules
    have z_o : w.heap.size + 1 + 1 < W1.heap.size := (HT.out.in_ 0 rfl rfl).2
    have z_k : w.heap.size < W1.heap.size := (HT.out.in_ 2 rfl rfl).2
    go_wp2_with fail
    clear r_o q_o r_k q_k z_o z_k
    have hF := HT.out.fill8 0 (.int .i64 m0) (.int .i64 m1) (.int .i64 m2) (.int .i64 m3) (.int .i64 m4) (.int .i64 m5) (.int .i64 m6) (.int .i64 m7) rfl rfl
    unfold fill8W at hF
    generalize ((((((((W1.setCell ⟨w.heap.size + 1 + 1, 0, none⟩ (.int .i64 m0)).setCell ⟨w.heap.size + 1 + 1, 1, none⟩ (.int .i64 m1)).setCell ⟨w.heap.size + 1 + 1, 2, none⟩ (.int .i64 m2)).setCell ⟨w.heap.size + 1 + 1, 3, none⟩ (.int .i64 m3)).setCell ⟨w.heap.size + 1 + 1, 4, none⟩ (.int .i64 m4)).setCell ⟨w.heap.size + 1 + 1, 5, none⟩ (.int .i64 m5)).setCell ⟨w.heap.size + 1 + 1, 6, none⟩ (.int .i64 m6)).setCell ⟨w.heap.size + 1 + 1, 7, none⟩ (.int .i64 m7)) = WZ at *
    obtain ⟨T', K', -⟩ := hF
    replace T' : St w.heap.size w WZ [.blk (w.heap.size + 1 + 1) #[.int .i64 m0, .int .i64 m1, .int .i64 m2, .int .i64 m3, .int .i64 m4, .int .i64 m5, .int .i64 m6, .int .i64 m7] 119, .blk (w.heap.size + 1) #[.int .i64 16, .int .i64 a, .int .i64 b, .int .i64 n] 42, .blk w.heap.size #[.int .i64 m0, .int .i64 m1, .int .i64 m2, .int .i64 m3, .int .i64 m4, .int .i64 m5, .int .i64 m6, .int .i64 m7] 119] := T'
    clear K' HT
    have HT := Lib.hid T'
    clear T'
    obtain ⟨r_o, q_o, -⟩ := HT.out.rules
    have z_o : w.heap.size + 1 + 1 < WZ.heap.size := (HT.out.in_ 0 rfl rfl).2
    refine bodyPost_ret (v := .agg #[.int .i64 m0, .int .i64 m1, .int .i64 m2, .int .i64 m3, .int .i64 m4, .int .i64 m5, .int .i64 m6, .int .i64 m7]) (by simp [results, Tryd.results97, go_sem, r_o]) rfl ⟨rfl, HT.out.below⟩
  · have T0 : St w.heap.size w ((((w.alloc (.cells #[.int .i64 k0, .int .i64 k1, .int .i64 k2, .int .i64 k3, .int .i64 k4, .int .i64 k5, .int .i64 k6, .int .i64 k7] 119)).alloc (.cells #[.int .i64 17, .int .i64 a, .int .i64 b, .int .i64 n] 42)).alloc (.cells #[.int .i64 0, .int .i64 0, .int .i64 0, .int .i64 0, .int .i64 0, .int .i64 0, .int .i64 0, .int .i64 0] 119))) [.blk (w.heap.size + 1 + 1) #[.int .i64 0, .int .i64 0, .int .i64 0, .int .i64 0, .int .i64 0, .int .i64 0, .int .i64 0, .int .i64 0] 119, .blk (w.heap.size + 1) #[.int .i64 17, .int .i64 a, .int .i64 b, .int .i64 n] 42, .blk w.heap.size #[.int .i64 k0, .int .i64 k1, .int .i64 k2, .int .i64 k3, .int .i64 k4, .int .i64 k5, .int .i64 k6, .int .i64 k7] 119] := ((((((St.start w (Nat.le_refl _)).new' #[.int .i64 k0, .int .i64 k1, .int .i64 k2, .int .i64 k3, .int .i64 k4, .int .i64 k5, .int .i64 k6, .int .i64 k7] 119 (w.heap.size) (by simp)).1).new' #[.int .i64 17, .int .i64 a, .int .i64 b, .int .i64 n] 42 (w.heap.size + 1) (by simp)).1).new' #[.int .i64 0, .int .i64 0, .int .i64 0, .int .i64 0, .int .i64 0, .int .i64 0, .int .i64 0, .int .i64 0] 119 (w.heap.size + 1 + 1) (by simp)).1
    go_enter Tryd.func97, Tryd.ntmps97
    go_upto_region 1 with fail
    generalize (((w.alloc (.cells #[.int .i64 k0, .int .i64 k1, .int .i64 k2, .int .i64 k3, .int .i64 k4, .int .i64 k5, .int .i64 k6, .int .i64 k7] 119)).alloc (.cells #[.int .i64 17, .int .i64 a, .int .i64 b, .int .i64 n] 42)).alloc (.cells #[.int .i64 0, .int .i64 0, .int .i64 0, .int .i64 0, .int .i64 0, .int .i64 0, .int .i64 0, .int .i64 0] 119)) = W at *
    rw [Hkc.out] at T0
    have HT := Lib.hid T0
    clear T0
    obtain ⟨r_o, q_o, r_i, q_i, -⟩ := HT.out.rules
    have z_o : w.heap.size + 1 + 1 < W.heap.size := (HT.out.in_ 0 rfl rfl).2
    have z_i : w.heap.size + 1 < W.heap.size := (HT.out.in_ 1 rfl rfl).2
    have z_k : w.heap.size < W.heap.size := (HT.out.in_ 2 rfl rfl).2
    have f_k : ∀ i, W.frozen? ⟨w.heap.size, i, none⟩ = false := fun i => by have := HT.out.heap 2 rfl; simp [World.frozen?, this]
    have c_b : W.cell? ⟨w.heap.size, b, none⟩ = some (.int .i64 xb) := kc_cell (HT.out.heap 2 rfl) (HXb.out)
    go_upto_region 27 with fail
    clear r_o q_o r_i q_i z_o z_i z_k f_k c_b
    obtain ⟨T', K'⟩ := HT.out.put 2 b (.int .i64 0) rfl
    simp only [List.set_cons_succ, List.set_cons_zero] at T' K'
    replace HT := Lib.hid T'
    clear T' K'
    rw [kc_set] at HT
    generalize W.setCell ⟨w.heap.size, b, none⟩ (.int .i64 0) = W1 at *
    obtain ⟨r_o, q_o, r_i, q_i, -⟩ := HT.out.rules
    have z_o : w.heap.size + 1 + 1 < W1.heap.size := (HT.out.in_ 0 rfl rfl).2
    have z_i : w.heap.size + 1 < W1.heap.size := (HT.out.in_ 1 rfl rfl).2
    have z_k : w.heap.size < W1.heap.size := (HT.out.in_ 2 rfl rfl).2
    have f_k : ∀ i, W1.frozen? ⟨w.heap.size, i, none⟩ = false := fun i => by have := HT.out.heap 2 rfl; simp [World.frozen?, this]
    obtain ⟨xa2, hxa2⟩ : ∃ x, (k.set b 0)[a]? = some x := ⟨_, List.getElem?_eq_getElem (by have := Hk.out; simp; omega)⟩
    have c_a : W1.cell? ⟨w.heap.size, a, none⟩ = some (.int .i64 xa2) := kc_cell (HT.out.heap 2 rfl) (hxa2)
    go_upto_region 28 with fail
    clear r_o q_o r_i q_i z_o z_i z_k f_k c_a
    obtain ⟨T', K'⟩ := HT.out.put 2 a (.int .i64 1) rfl
    simp only [List.set_cons_succ, List.set_cons_zero] at T' K'
    replace HT := Lib.hid T'
    clear T' K'
    rw [kc_set] at HT
    generalize W1.setCell ⟨w.heap.size, a, none⟩ (.int .i64 1) = W2 at *
    have hfin := Hmc.out
    rw [later_spawn] at hfin
    rw [hfin] at HT
    clear hfin
    obtain ⟨r_o, q_o, -, -, r_k, q_k, -⟩ := HT.out.rules
    have z_o : w.heap.size + 1 + 1 < W2.heap.size := (HT.out.in_ 0 rfl rfl).2
    have z_k : w.heap.size < W2.heap.size := (HT.out.in_ 2 rfl rfl).2
    go_wp2_with fail
    clear r_o q_o r_k q_k z_o z_k
    have hF := HT.out.fill8 0 (.int .i64 m0) (.int .i64 m1) (.int .i64 m2) (.int .i64 m3) (.int .i64 m4) (.int .i64 m5) (.int .i64 m6) (.int .i64 m7) rfl rfl
    unfold fill8W at hF
    generalize ((((((((W2.setCell ⟨w.heap.size + 1 + 1, 0, none⟩ (.int .i64 m0)).setCell ⟨w.heap.size + 1 + 1, 1, none⟩ (.int .i64 m1)).setCell ⟨w.heap.size + 1 + 1, 2, none⟩ (.int .i64 m2)).setCell ⟨w.heap.size + 1 + 1, 3, none⟩ (.int .i64 m3)).setCell ⟨w.heap.size + 1 + 1, 4, none⟩ (.int .i64 m4)).setCell ⟨w.heap.size + 1 + 1, 5, none⟩ (.int .i64 m5)).setCell ⟨w.heap.size + 1 + 1, 6, none⟩ (.int .i64 m6)).setCell ⟨w.heap.size + 1 + 1, 7, none⟩ (.int .i64 m7)) = WZ at *
    obtain ⟨T', K', -⟩ := hF
    replace T' : St w.heap.size w WZ [.blk (w.heap.size + 1 + 1) #[.int .i64 m0, .int .i64 m1, .int .i64 m2, .int .i64 m3, .int .i64 m4, .int .i64 m5, .int .i64 m6, .int .i64 m7] 119, .blk (w.heap.size + 1) #[.int .i64 17, .int .i64 a, .int .i64 b, .int .i64 n] 42, .blk w.heap.size #[.int .i64 m0, .int .i64 m1, .int .i64 m2, .int .i64 m3, .int .i64 m4, .int .i64 m5, .int .i64 m6, .int .i64 m7] 119] := T'
    clear K' HT
    have HT := Lib.hid T'
    clear T'
    obtain ⟨r_o, q_o, -⟩ := HT.out.rules
    have z_o : w.heap.size + 1 + 1 < WZ.heap.size := (HT.out.in_ 0 rfl rfl).2
    refine bodyPost_ret (v := .agg #[.int .i64 m0, .int .i64 m1, .int .i64 m2, .int .i64 m3, .int .i64 m4, .int .i64 m5, .int .i64 m6, .int .i64 m7]) (by simp [results, Tryd.results97, go_sem, r_o]) rfl ⟨rfl, HT.out.below⟩
  · have T0 : St w.heap.size w ((((w.alloc (.cells #[.int .i64 k0, .int .i64 k1, .int .i64 k2, .int .i64 k3, .int .i64 k4, .int .i64 k5, .int .i64 k6, .int .i64 k7] 119)).alloc (.cells #[.int .i64 18, .int .i64 a, .int .i64 b, .int .i64 n] 42)).alloc (.cells #[.int .i64 0, .int .i64 0, .int .i64 0, .int .i64 0, .int .i64 0, .int .i64 0, .int .i64 0, .int .i64 0] 119))) [.blk (w.heap.size + 1 + 1) #[.int .i64 0, .int .i64 0, .int .i64 0, .int .i64 0, .int .i64 0, .int .i64 0, .int .i64 0, .int .i64 0] 119, .blk (w.heap.size + 1) #[.int .i64 18, .int .i64 a, .int .i64 b, .int .i64 n] 42, .blk w.heap.size #[.int .i64 k0, .int .i64 k1, .int .i64 k2, .int .i64 k3, .int .i64 k4, .int .i64 k5, .int .i64 k6, .int .i64 k7] 119] := ((((((St.start w (Nat.le_refl _)).new' #[.int .i64 k0, .int .i64 k1, .int .i64 k2, .int .i64 k3, .int .i64 k4, .int .i64 k5, .int .i64 k6, .int .i64 k7] 119 (w.heap.size) (by simp)).1).new' #[.int .i64 18, .int .i64 a, .int .i64 b, .int .i64 n] 42 (w.heap.size + 1) (by simp)).1).new' #[.int .i64 0, .int .i64 0, .int .i64 0, .int .i64 0, .int .i64 0, .int .i64 0, .int .i64 0, .int .i64 0] 119 (w.heap.size + 1 + 1) (by simp)).1
    go_enter Tryd.func97, Tryd.ntmps97
    go_upto_region 1 with fail
    generalize (((w.alloc (.cells #[.int .i64 k0, .int .i64 k1, .int .i64 k2, .int .i64 k3, .int .i64 k4, .int .i64 k5, .int .i64 k6, .int .i64 k7] 119)).alloc (.cells #[.int .i64 18, .int .i64 a, .int .i64 b, .int .i64 n] 42)).alloc (.cells #[.int .i64 0, .int .i64 0, .int .i64 0, .int .i64 0, .int .i64 0, .int .i64 0, .int .i64 0, .int .i64 0] 119)) = W at *
    rw [Hkc.out] at T0
    have HT := Lib.hid T0
    clear T0
    obtain ⟨r_o, q_o, r_i, q_i, -⟩ := HT.out.rules
    have z_o : w.heap.size + 1 + 1 < W.heap.size := (HT.out.in_ 0 rfl rfl).2
    have z_i : w.heap.size + 1 < W.heap.size := (HT.out.in_ 1 rfl rfl).2
    have z_k : w.heap.size < W.heap.size := (HT.out.in_ 2 rfl rfl).2
    have f_k : ∀ i, W.frozen? ⟨w.heap.size, i, none⟩ = false := fun i => by have := HT.out.heap 2 rfl; simp [World.frozen?, this]
    have c_a : W.cell? ⟨w.heap.size, a, none⟩ = some (.int .i64 xa) := kc_cell (HT.out.heap 2 rfl) (HXa.out)
    go_upto_region 28 with fail
    clear r_o q_o r_i q_i z_o z_i z_k f_k c_a
    obtain ⟨T', K'⟩ := HT.out.put 2 a (.int .i64 0) rfl
    simp only [List.set_cons_succ, List.set_cons_zero] at T' K'
    replace HT := Lib.hid T'
    clear T' K'
    rw [kc_set] at HT
    generalize W.setCell ⟨w.heap.size, a, none⟩ (.int .i64 0) = W1 at *
    have hfin := Hmc.out
    rw [later_gone (by decide)] at hfin
    rw [hfin] at HT
    clear hfin
    obtain ⟨r_o, q_o, -, -, r_k, q_k, -⟩ := HT.out.rules
    have z_o : w.heap.size + 1 + 1 < W1.heap.size := (HT.out.in_ 0 rfl rfl).2
    have z_k : w.heap.size < W1.heap.size := (HT.out.in_ 2 rfl rfl).2
    go_wp2_with fail
    clear r_o q_o r_k q_k z_o z_k
    have hF := HT.out.fill8 0 (.int .i64 m0) (.int .i64 m1) (.int .i64 m2) (.int .i64 m3) (.int .i64 m4) (.int .i64 m5) (.int .i64 m6) (.int .i64 m7) rfl rfl
    unfold fill8W at hF
    generalize ((((((((W1.setCell ⟨w.heap.size + 1 + 1, 0, none⟩ (.int .i64 m0)).setCell ⟨w.heap.size + 1 + 1, 1, none⟩ (.int .i64 m1)).setCell ⟨w.heap.size + 1 + 1, 2, none⟩ (.int .i64 m2)).setCell ⟨w.heap.size + 1 + 1, 3, none⟩ (.int .i64 m3)).setCell ⟨w.heap.size + 1 + 1, 4, none⟩ (.int .i64 m4)).setCell ⟨w.heap.size + 1 + 1, 5, none⟩ (.int .i64 m5)).setCell ⟨w.heap.size + 1 + 1, 6, none⟩ (.int .i64 m6)).setCell ⟨w.heap.size + 1 + 1, 7, none⟩ (.int .i64 m7)) = WZ at *
    obtain ⟨T', K', -⟩ := hF
    replace T' : St w.heap.size w WZ [.blk (w.heap.size + 1 + 1) #[.int .i64 m0, .int .i64 m1, .int .i64 m2, .int .i64 m3, .int .i64 m4, .int .i64 m5, .int .i64 m6, .int .i64 m7] 119, .blk (w.heap.size + 1) #[.int .i64 18, .int .i64 a, .int .i64 b, .int .i64 n] 42, .blk w.heap.size #[.int .i64 m0, .int .i64 m1, .int .i64 m2, .int .i64 m3, .int .i64 m4, .int .i64 m5, .int .i64 m6, .int .i64 m7] 119] := T'
    clear K' HT
    have HT := Lib.hid T'
    clear T'
    obtain ⟨r_o, q_o, -⟩ := HT.out.rules
    have z_o : w.heap.size + 1 + 1 < WZ.heap.size := (HT.out.in_ 0 rfl rfl).2
    refine bodyPost_ret (v := .agg #[.int .i64 m0, .int .i64 m1, .int .i64 m2, .int .i64 m3, .int .i64 m4, .int .i64 m5, .int .i64 m6, .int .i64 m7]) (by simp [results, Tryd.results97, go_sem, r_o]) rfl ⟨rfl, HT.out.below⟩
  · have T0 : St w.heap.size w ((((w.alloc (.cells #[.int .i64 k0, .int .i64 k1, .int .i64 k2, .int .i64 k3, .int .i64 k4, .int .i64 k5, .int .i64 k6, .int .i64 k7] 119)).alloc (.cells #[.int .i64 19, .int .i64 a, .int .i64 b, .int .i64 n] 42)).alloc (.cells #[.int .i64 0, .int .i64 0, .int .i64 0, .int .i64 0, .int .i64 0, .int .i64 0, .int .i64 0, .int .i64 0] 119))) [.blk (w.heap.size + 1 + 1) #[.int .i64 0, .int .i64 0, .int .i64 0, .int .i64 0, .int .i64 0, .int .i64 0, .int .i64 0, .int .i64 0] 119, .blk (w.heap.size + 1) #[.int .i64 19, .int .i64 a, .int .i64 b, .int .i64 n] 42, .blk w.heap.size #[.int .i64 k0, .int .i64 k1, .int .i64 k2, .int .i64 k3, .int .i64 k4, .int .i64 k5, .int .i64 k6, .int .i64 k7] 119] := ((((((St.start w (Nat.le_refl _)).new' #[.int .i64 k0, .int .i64 k1, .int .i64 k2, .int .i64 k3, .int .i64 k4, .int .i64 k5, .int .i64 k6, .int .i64 k7] 119 (w.heap.size) (by simp)).1).new' #[.int .i64 19, .int .i64 a, .int .i64 b, .int .i64 n] 42 (w.heap.size + 1) (by simp)).1).new' #[.int .i64 0, .int .i64 0, .int .i64 0, .int .i64 0, .int .i64 0, .int .i64 0, .int .i64 0, .int .i64 0] 119 (w.heap.size + 1 + 1) (by simp)).1
    go_enter Tryd.func97, Tryd.ntmps97
    go_upto_region 1 with fail
    generalize (((w.alloc (.cells #[.int .i64 k0, .int .i64 k1, .int .i64 k2, .int .i64 k3, .int .i64 k4, .int .i64 k5, .int .i64 k6, .int .i64 k7] 119)).alloc (.cells #[.int .i64 19, .int .i64 a, .int .i64 b, .int .i64 n] 42)).alloc (.cells #[.int .i64 0, .int .i64 0, .int .i64 0, .int .i64 0, .int .i64 0, .int .i64 0, .int .i64 0, .int .i64 0] 119)) = W at *
    rw [Hkc.out] at T0
    have HT := Lib.hid T0
    clear T0
    obtain ⟨r_o, q_o, r_i, q_i, -⟩ := HT.out.rules
    have z_o : w.heap.size + 1 + 1 < W.heap.size := (HT.out.in_ 0 rfl rfl).2
    have z_i : w.heap.size + 1 < W.heap.size := (HT.out.in_ 1 rfl rfl).2
    have z_k : w.heap.size < W.heap.size := (HT.out.in_ 2 rfl rfl).2
    have f_k : ∀ i, W.frozen? ⟨w.heap.size, i, none⟩ = false := fun i => by have := HT.out.heap 2 rfl; simp [World.frozen?, this]
    go_upto_region 28 with fail
    have hfin := Hmc.out
    rw [later_no (by decide)] at hfin
    rw [hfin] at HT
    clear hfin
    clear r_o q_o r_i q_i z_o z_i z_k f_k
    obtain ⟨r_o, q_o, -, -, r_k, q_k, -⟩ := HT.out.rules
    have z_o : w.heap.size + 1 + 1 < W.heap.size := (HT.out.in_ 0 rfl rfl).2
    have z_k : w.heap.size < W.heap.size := (HT.out.in_ 2 rfl rfl).2
    go_wp2_with fail
    clear r_o q_o r_k q_k z_o z_k
    have hF := HT.out.fill8 0 (.int .i64 m0) (.int .i64 m1) (.int .i64 m2) (.int .i64 m3) (.int .i64 m4) (.int .i64 m5) (.int .i64 m6) (.int .i64 m7) rfl rfl
    unfold fill8W at hF
    generalize ((((((((W.setCell ⟨w.heap.size + 1 + 1, 0, none⟩ (.int .i64 m0)).setCell ⟨w.heap.size + 1 + 1, 1, none⟩ (.int .i64 m1)).setCell ⟨w.heap.size + 1 + 1, 2, none⟩ (.int .i64 m2)).setCell ⟨w.heap.size + 1 + 1, 3, none⟩ (.int .i64 m3)).setCell ⟨w.heap.size + 1 + 1, 4, none⟩ (.int .i64 m4)).setCell ⟨w.heap.size + 1 + 1, 5, none⟩ (.int .i64 m5)).setCell ⟨w.heap.size + 1 + 1, 6, none⟩ (.int .i64 m6)).setCell ⟨w.heap.size + 1 + 1, 7, none⟩ (.int .i64 m7)) = WZ at *
    obtain ⟨T', K', -⟩ := hF
    replace T' : St w.heap.size w WZ [.blk (w.heap.size + 1 + 1) #[.int .i64 m0, .int .i64 m1, .int .i64 m2, .int .i64 m3, .int .i64 m4, .int .i64 m5, .int .i64 m6, .int .i64 m7] 119, .blk (w.heap.size + 1) #[.int .i64 19, .int .i64 a, .int .i64 b, .int .i64 n] 42, .blk w.heap.size #[.int .i64 m0, .int .i64 m1, .int .i64 m2, .int .i64 m3, .int .i64 m4, .int .i64 m5, .int .i64 m6, .int .i64 m7] 119] := T'
    clear K' HT
    have HT := Lib.hid T'
    clear T'
    obtain ⟨r_o, q_o, -⟩ := HT.out.rules
    have z_o : w.heap.size + 1 + 1 < WZ.heap.size := (HT.out.in_ 0 rfl rfl).2
    refine bodyPost_ret (v := .agg #[.int .i64 m0, .int .i64 m1, .int .i64 m2, .int .i64 m3, .int .i64 m4, .int .i64 m5, .int .i64 m6, .int .i64 m7]) (by simp [results, Tryd.results97, go_sem, r_o]) rfl ⟨rfl, HT.out.below⟩
end Go.Proofs.YtabcjdalifhpdaaDoor
