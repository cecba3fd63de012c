/- The walks of slices.IndexFunc and slices.ContainsFunc on numbers, and of the function that heap.Transfer hands to it. Condition: the function answers at the numbers of the list. -/
import Derived.Test.YtfafnjkinolkmaaHeapA
import Derived.Test.YtfafnjkinolkmaaLoc
namespace Go.Proofs.Ytfafnjkinolkmaa
open Go.RowKit

/-- A function value that answers p of each number of a list, in whatever world comes later. -/
def TellsI (F : Nat) (cap : Value) (w : World) (p : Int → Bool) (l : List Int) : Prop :=
  ∀ x ∈ l, ∀ (W : World), Below w.heap.size w W → Calls Try.prog F #[.int .i64 x, cap] W fun e W' => e = .returned (.bool (p x)) ∧ Below W.heap.size W W'
def FoundI (p : Int → Bool) (l : List Int) (w : World) (e : Ending) (w' : World) : Prop := ∃ r : Int, e = .returned (.int .i64 r) ∧ decide (0 ≤ r) = l.any p ∧ Below w.heap.size w w'
theorem TellsI.gives {F : Nat} {cap : Value} {w W : World} {p : Int → Bool} {l : List Int} (hf : TellsI F cap w p l) {x : Int} (hx : x ∈ l) (b : Bool) (hp : Hid (p x = b)) (hb : Below w.heap.size w W) :
    Calls Try.prog F #[.int .i64 x, cap] W fun e W' => e = .returned (.bool b) ∧ Below W.heap.size W W' :=
  (hf x hx W hb).mono fun _ _ ⟨he, h⟩ => ⟨by rw [he, hp.out], h⟩

set_option maxHeartbeats 400000 in
theorem indexFuncI_any (F : Nat) (cap : Value) (p : Int → Bool) (S : Nat → Prop) (A : Option Addr) (c : Nat) (l : List Int) (w : World) (hr : RdSl iE w S (.slice A l.length c) l) (hf : TellsI F cap w p l)
    (hen : ∀ (args : Array Value) (W : World), (callFunc F args).run Try.prog W = .ok (.enter F args) W) :
    Calls Try.prog 54 #[.slice A l.length c, .func (.func F) #[] #[cap]] w (FoundI p l w) := by
  obtain ⟨-, h1, h2, h3⟩ := hr.lims
  have Hr := Lib.hid hr
  clear hr
  go_enter Try.func54, Try.ntmps54
  go_wp2
  go_loopw [5, 8] (fun _ i wr => ∃ k : Nat, k ≤ l.length ∧ i = .int .i64 k ∧ (l.take k).any p = false ∧ Below w.heap.size w wr) (fun _ i _ => l.length - (intOf i).toNat)
  case atStart => exact ⟨0, by omega, rfl, by simp, Below.refl _ _⟩
  case round =>
    obtain ⟨k, hk, rfl, hany, hb⟩ := hrel
    by_cases hlt : k < l.length
    · obtain ⟨x, hx⟩ : ∃ x, l[k]? = some x := ⟨l[k], List.getElem?_eq_getElem hlt⟩
      obtain ⟨b, o, rfl, _, _, g0⟩ := (Hr.out.below (by decide) hb).at_i hx
      have Hm := Lib.hid (List.mem_of_getElem? hx)
      have Hany := Lib.hid hany
      have Hx := Lib.hid hx
      clear hany hx
      cases hp : p x
      all_goals
        have Hp := Lib.hid hp
        clear hp
        go_wp2_with (refine (hf.gives Hm.out _ Hp hb).mono ?_; rintro e w' ⟨rfl, hb1⟩)
      · go_roundw
        case rel => exact ⟨k + 1, by omega, by go_num, any_take_succ Hx.out Hany.out Hp.out, hb.trans (hb1.mono hb.size)⟩
        case measure => simp [intOf]; omega
      · go_ret
        exact ⟨_, rfl, by simp [any_at Hx.out Hp.out], hb.trans (hb1.mono hb.size)⟩
    · have Hany := Lib.hid hany
      clear hany
      go_wp2
      go_ret
      exact ⟨_, rfl, by have := Hany.out; rw [List.take_of_length_le (by omega)] at this; simp [this], hb⟩

set_option maxHeartbeats 400000 in
theorem containsFuncI_any (F : Nat) (cap : Value) (p : Int → Bool) (S : Nat → Prop) (A : Option Addr) (c : Nat) (l : List Int) (w : World) (hr : RdSl iE w S (.slice A l.length c) l) (hf : TellsI F cap w p l)
    (hen : ∀ (args : Array Value) (W : World), (callFunc F args).run Try.prog W = .ok (.enter F args) W) :
    Calls Try.prog 39 #[.slice A l.length c, .func (.func F) #[] #[cap]] w fun e w' => e = .returned (.bool (l.any p)) ∧ Below w.heap.size w w' := by
  have Hr := Lib.hid hr
  clear hr
  go_enter Try.func39, Try.ntmps39
  go_wp2_with (refine (indexFuncI_any F cap p S A c l _ Hr.out hf hen).mono ?_; rintro e w' ⟨r, rfl, hd, hb⟩; have Hd := Lib.hid hd; clear hd)
  go_ret
  exact ⟨ret_bool Hd.out, hb⟩

/-- Is the object dead? -/
def deadAt (os : List Ob) (x : Int) : Bool := match os[x.toNat]? with | some o => o.dead | none => false
/-- heap.Transfer's own closure: is an object dead? -/
theorem transfer1_any (m : Int) (S : Nat → Prop) (A : Option Addr) (c : Nat) (os : List Ob) (B : Nat) (w : World) (l : List Int) (h0 : w.cell? ⟨B, 0, none⟩ = some (.int .i64 m)) (h1 : w.cell? ⟨B, 1, none⟩ = some (.slice A os.length c)) (hr : RdSl obE w S (.slice A os.length c) os)
    (hl : ∀ x ∈ l, 0 ≤ x ∧ x < (os.length : Int)) : TellsI 40 (.pointer (some ⟨B, 0, none⟩)) w (deadAt os) l := by
  intro x hx W hb
  have hB := lt_of_cell h0
  have g0 : W.cell? ⟨B, 0, none⟩ = some (.int .i64 m) := (hb.cell (p := ⟨B, 0, none⟩) hB).trans h0
  have g1 : W.cell? ⟨B, 1, none⟩ = some (.slice A os.length c) := (hb.cell (p := ⟨B, 1, none⟩) hB).trans h1
  obtain ⟨x1, x2⟩ := hl x hx
  obtain ⟨i, rfl⟩ := Int.eq_ofNat_of_zero_le x1
  obtain ⟨o, ho⟩ : ∃ o, os[i]? = some o := ⟨_, List.getElem?_eq_getElem (by omega)⟩
  obtain ⟨pb, po, B1, d1, rfl, _, _, y0, y1, _⟩ := (hr.below (by decide) hb).at_o ho
  have hd : deadAt os (i : Int) = o.dead := by simp [deadAt, ho]
  rw [hd]
  clear h0 h1 hb hB hr hl hx ho hd
  go_enter Try.func40, Try.ntmps40
  go_wp2_with fail
  go_ret
  exact ⟨rfl, Below.refl _ _⟩
end Go.Proofs.Ytfafnjkinolkmaa
