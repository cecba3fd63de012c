/- The walk of the document's copy of a list of values: a new row that holds the same. No condition beside what is read. -/
import Derived.Test.YtabcjdalifhpdaaDoorCloneH
namespace Go.Proofs.YtabcjdalifhpdaaDoor
open Go.RowKit

set_option maxHeartbeats 2000000 in
theorem values_any (S : Nat → Prop) (A : Option Addr) (c : Nat) (xs : List V) (w : World) (hr : RdSl vE w S (.slice A xs.length c) xs) :
    Calls Tryd.prog 132 #[.slice A xs.length c] w (ClonedV w (fun _ => False) xs) := by
  obtain ⟨-, h1, h2, h3⟩ := hr.lims
  obtain ⟨i0, hi0, hz0, hz1, hz2⟩ := info_parts infoV
  have H3 : xs.length * 16 ≤ 140737488355328 := h3
  have Hr := Lib.hid hr
  clear hr h3
  go_enter Tryd.func132, Tryd.ntmps132
  go_wp2
  go_loopw [3, 4] (fun v i wr => ∃ (k : Nat) (css : List (List Value)), k ≤ xs.length ∧ i = .int .i64 k ∧ Held vE wr (fun _ => False) css (xs.take k) ∧ wr.ownsRow w.heap.size 61 2 v k css.flatten ∧ Below w.heap.size w wr) (fun _ i _ => xs.length - (intOf i).toNat)
  case atStart => exact ⟨0, [], by omega, rfl, Held.nil, ⟨rfl, .inl ⟨rfl, rfl⟩⟩, Below.refl _ _⟩
  case round =>
    obtain ⟨k, css, hk, rfl, hH, hown, hb⟩ := hrel
    by_cases hlt : k < xs.length
    · obtain ⟨x, hx⟩ : ∃ x, xs[k]? = some x := ⟨xs[k], List.getElem?_eq_getElem hlt⟩
      obtain ⟨b, o, rfl, _, hbs, g0, g1⟩ := (Hr.out.below (by decide) hb).at_v hx
      have Hx := Lib.hid hx
      have HH := Lib.hid hH
      have Hown := Lib.hid hown
      have hsz := hb.size
      clear hx hH hown
      go_wp2_with (at_builtin; refine wpList_append_own _ rfl (.tmp 11) (.tmp 16) _ rfl w.heap.size 61 i0 _ 2 16 Tryd.underlying52 hi0 hz0 hz1 hz2 rfl (by omega) _ k css.flatten rfl (Hown.out.alloc _) ⟨wr.heap.size, 0, none⟩ 1 1 [.int .i64 x.k, .int .i64 x.n] rfl rfl ?c1 ?c2 ?c3 ?c4 ?c5 ?next)
      case c1 => exact World.news_of_block (cs := #[.int .i64 x.k, .int .i64 x.n]) (t := 61) (fr := (0, 0)) (heap_alloc_new wr _)
      case c2 => simp [Value.oneCell']
      case c3 => unfold maxLen; omega
      case c4 => omega
      case c5 => simp; omega
      case next =>
        intro v' w1 hown' hg _
        have hb1 : Below w.heap.size w w1 := (hb.alloc hsz _).grown hg (by simp; omega) (fun g hg' => (own_lt Hown.out hg').2)
        have Hown' := Lib.hid hown'
        clear hown' hg
        go_wp2
        go_roundw
        case rel =>
          refine ⟨k + 1, css ++ [[.int .i64 x.k, .int .i64 x.n]], by omega, by go_num, ?_, by have := Hown'.out; simpa using this, hb1⟩
          rw [List.take_add_one, Hx.out]
          exact (HH.out.keep (fun b _ h => h.elim)).append (Held.single rfl rfl)
        case measure => simp [intOf]; omega
    · have hx : xs.take k = xs := List.take_of_length_le (by omega)
      have hkk : k = xs.length := by omega
      rw [hx] at hH
      subst hkk
      have HH := Lib.hid hH
      have Hown := Lib.hid hown
      clear hx hH hown
      go_wp2
      go_ret
      exact ⟨_, rfl, ⟨css, HH.out, Hown.out, H3⟩, hb⟩

end Go.Proofs.YtabcjdalifhpdaaDoor
