/- The walks of heap.object, heap.Get and of the document's answers to them. No condition beside what is read. -/
import Derived.Test.YtfafnjkinolkmaaHeapMay
import Derived.Test.YtfafnjkinolkmaaOwn
namespace Go.Proofs.Ytfafnjkinolkmaa
open Go.RowKit

/-- How an object that a value means, and one of its fields, answer. -/
def objectE (os : List Ob) (v : V) (f : Int) : Int :=
  if v.k = 2 then
    match os[v.n.toNat]? with
    | some o => if o.dead then 10 else if f < 0 ∨ (o.fields.length : Int) ≤ f then 2 else 0
    | none => 9
  else 9

/-- A value of a heap that is a Ref is the place of an object. -/
theorem valB_ref {n : Nat} {v : V} (h : valB n v = true) (hk : v.k = 2) : 0 ≤ v.n ∧ v.n < n := by
  simp [valB, hk] at h
  exact h

set_option maxHeartbeats 1000000 in
theorem object_is (m : Int) (S : Nat → Prop) (A : Option Addr) (c : Nat) (os : List Ob) (v : V) (f : Int) (w : World) (r : Int) (hE : Hid (objectE os v f = r)) (hv : v.k = 2 → 0 ≤ v.n ∧ v.n < os.length) (hr : RdSl obE w S (.slice A os.length c) os) :
    Calls Try.prog 36 #[.agg #[.int .i64 m, .slice A os.length c], .agg #[.int .i64 v.k, .int .i64 v.n], .int .i64 f] w fun e w' => e = .returned (.int .i64 r) ∧ Below w.heap.size w w' := by
  obtain ⟨-, h1, h2, h3⟩ := hr.lims
  obtain ⟨k, y⟩ := v
  have hBB : Below w.heap.size w ((w.alloc (.cells #[.int .i64 m, .slice A os.length c] 26)).alloc (.cells #[.int .i64 k, .int .i64 y] 31)) := ((Below.refl _ _).alloc (Nat.le_refl _) _).alloc (by simp) _
  by_cases hk : k = 2
  · subst hk
    obtain ⟨l1, l2⟩ := hv rfl
    simp only at l1 l2
    obtain ⟨i, rfl⟩ := Int.eq_ofNat_of_zero_le l1
    have hi : i < os.length := by omega
    obtain ⟨o, ho⟩ : ∃ o, os[i]? = some o := ⟨os[i], List.getElem?_eq_getElem hi⟩
    obtain ⟨b, p, B, d, rfl, _, hbs, g0, g1, hf⟩ := hr.at_o ho
    obtain ⟨-, f1, f2, f3⟩ := hf.lims
    have Ho := Lib.hid ho
    clear hr hf ho hv f3 h3
    cases hd : o.dead
    all_goals
      rw [hd] at g1
      have Hd := Lib.hid hd
      clear hd
    · by_cases hfo : 0 ≤ f ∧ f < (o.fields.length : Int)
      · obtain ⟨e1, e2⟩ := hfo
        have hr0 : r = 0 := by have := hE.out; simp [objectE, Ho.out, Hd.out] at this; rw [if_neg (by omega)] at this; exact this.symm
        subst hr0
        clear hE
        go_enter Try.func36, Try.ntmps36
        go_wp2
        go_ret
        exact ⟨rfl, hBB⟩
      · have hr0 : r = 2 := by have := hE.out; simp [objectE, Ho.out, Hd.out] at this; rw [if_pos (by omega)] at this; exact this.symm
        subst hr0
        clear hE
        rcases (by omega : f < 0 ∨ (0 ≤ f ∧ (o.fields.length : Int) ≤ f)) with e1 | e1
        all_goals
          clear hfo
          go_enter Try.func36, Try.ntmps36
          go_wp2
          go_ret
          exact ⟨rfl, hBB⟩
    · have hr0 : r = 10 := by have := hE.out; simp [objectE, Ho.out, Hd.out] at this; exact this.symm
      subst hr0
      clear hE
      go_enter Try.func36, Try.ntmps36
      go_wp2
      go_ret
      exact ⟨rfl, hBB⟩
  · have hr0 : r = 9 := by have := hE.out; simp [objectE, hk] at this; exact this.symm
    subst hr0
    have hkb : (k != 2) = true := by simpa using hk
    clear hE hk hv hr h3
    go_enter Try.func36, Try.ntmps36
    go_wp2
    go_ret
    exact ⟨rfl, hBB⟩


theorem check_is (m : Int) (S T : Nat → Prop) (A R : Option Addr) (c d : Nat) (os : List Ob) (rs : List V) (w : World) (n : Int) (hn : Hid (checkN ⟨m, os⟩ rs = n)) (ho : RdSl obE w S (.slice A os.length c) os) (hq : RdSl vE w T (.slice R rs.length d) rs) :
    Calls Try.prog 12 #[.agg #[.int .i64 m, .slice A os.length c], .slice R rs.length d] w fun e w' => e = .returned (.int .i64 n) ∧ Below w.heap.size w w' := hn.out ▸ check_any m S T A R c d os rs w ho hq
theorem may_is (m : Int) (S T : Nat → Prop) (A R : Option Addr) (c d : Nat) (os : List Ob) (rs : List V) (w : World) (n : Bool) (hn : Hid (hpB ⟨m, os⟩ rs = n)) (ho : RdSl obE w S (.slice A os.length c) os) (hq : RdSl vE w T (.slice R rs.length d) rs) :
    Calls Try.prog 42 #[.agg #[.int .i64 m, .slice A os.length c], .slice R rs.length d] w fun e w' => e = .returned (.bool n) ∧ Below w.heap.size w w' := hn.out ▸ heapMay_any m S T A R c d os rs w ho hq
theorem rd_one {w : World} {b : Nat} {v : V} {t : TypeId} (h : w.heap[b]? = some (.cells #[.int .i64 v.k, .int .i64 v.n] t (0, 0))) : RdSl vE w (fun _ => True) (.slice (some ⟨b, 0, none⟩) [v].length 1) [v] :=
  ⟨_, 1, rfl, Nat.le_refl _, by unfold maxLen; omega, by simp [vE], fun _ => ⟨b, 0, rfl, trivial, fun i x hx => by
    cases i with
    | zero =>
      simp at hx
      subst hx
      refine ⟨_, rfl, rfl, fun j u hu => ?_⟩
      rw [cell_of_row w b _ _ _ _ h]
      simp only [Nat.zero_mul, Nat.zero_add]
      simpa using hu
    | succ n => simp at hx⟩⟩

/-- The field of an object. -/
def fieldAt (os : List Ob) (v : V) (f : Int) : V := ((os[v.n.toNat]?).bind (fun o => o.fields[f.toNat]?)).getD ⟨0, 0⟩
/-- What heap.Get answers: the value, the error. -/
def gotV (m : Int) (os : List Ob) (v : V) (f : Int) : V := if hpB ⟨m, os⟩ [v] = true ∧ objectE os v f = 0 then fieldAt os v f else ⟨0, 0⟩
def gotE (m : Int) (os : List Ob) (v : V) (f : Int) : Int := if hpB ⟨m, os⟩ [v] = true then objectE os v f else 8

/-- Where the error is OK there is such a field. -/
theorem objectE_ok {os : List Ob} {v : V} {f : Int} (h : objectE os v f = 0) : v.k = 2 ∧ ∃ o, os[v.n.toNat]? = some o ∧ 0 ≤ f ∧ f < o.fields.length ∧ o.dead = false := by
  unfold objectE at h
  split at h
  · rename_i hk
    split at h
    · rename_i o ho
      split at h
      · omega
      · split at h
        · omega
        · rename_i hd hf
          exact ⟨hk, o, ho, by omega, by omega, by simpa using hd⟩
    · omega
  · omega

end Go.Proofs.Ytfafnjkinolkmaa
