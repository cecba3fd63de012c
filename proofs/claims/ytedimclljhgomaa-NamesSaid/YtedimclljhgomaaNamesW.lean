/- The walk of the statement on the numbers of package api. No condition. -/
import Derived.Test.YtedimclljhgomaaLedTo
import Derived.Test.YtedimclljhgomaaSame
import Derived.Maps.AppendAt
namespace Go.Proofs.Ytedimclljhgomaa
open Go.RowKit

theorem own_lit {w : World} {g base : Nat} {cs : List Value} {t : TypeId} (h : w.heap[g]? = some (.cells cs.toArray t (0, 0))) (hs : cs.length ≤ maxLen) (hb : base ≤ g) :
    w.ownsRow base t 1 (.slice (some ⟨g, 0, none⟩) cs.length cs.length) cs.length cs := ⟨by simp, .inr ⟨g, cs.length, cs.toArray, rfl, hb, h, Nat.le_refl _, hs, by simp, by simp⟩⟩
def nmA : List Int := [8, 4, 60, 60, 6, 8, 6, 1099511627776, 3000, 500, 5000, 0, 1, 2, 0, 1, 2, 3, 1, 2, 3]
def nmB : List Int := [0, 1, 2, 3, 4, 5, 6, 7, 8, 9, 10, 11, 12, 13, 14, 15, 16, 17, 18, 19]
def nmC : List Int := [0, 1, 2, 3, 4, 5, 6, 7, 8]
def nmE : List Int := [0, 1, 2, 3, 4, 5, 6, 7, 8, 9, 10]
abbrev I64 (l : List Int) : List Value := l.map (.int .i64)
theorem nm_take {l : List Int} {k : Nat} (h : l[k]? = some (k : Int)) : l.take (k + 1) = l.take k ++ [(k : Int)] := by rw [List.take_add_one, h]; rfl
theorem nmB_at {k : Nat} (h : k < 20) : nmB[k]? = some (k : Int) := by
  match k, h with
  | 0, _ | 1, _ | 2, _ | 3, _ | 4, _ | 5, _ | 6, _ | 7, _ | 8, _ | 9, _ | 10, _ | 11, _ | 12, _ | 13, _ | 14, _ | 15, _ | 16, _ | 17, _ | 18, _ | 19, _ => rfl
  | n + 20, h => omega
theorem nmC_at {k : Nat} (h : k < 9) : nmC[k]? = some (k : Int) := by
  match k, h with
  | 0, _ | 1, _ | 2, _ | 3, _ | 4, _ | 5, _ | 6, _ | 7, _ | 8, _ => rfl
  | n + 9, h => omega
theorem nmE_at {k : Nat} (h : k < 11) : nmE[k]? = some (k : Int) := by
  match k, h with
  | 0, _ | 1, _ | 2, _ | 3, _ | 4, _ | 5, _ | 6, _ | 7, _ | 8, _ | 9, _ | 10, _ => rfl
  | n + 11, h => omega

set_option maxRecDepth 100000 in
set_option maxHeartbeats 4000000 in
theorem names_any (w : World) : Calls Try.prog 3 #[] w fun e w' => e = .returned (.bool true) ∧ Below w.heap.size w w' := by
  obtain ⟨i0, hi0, hz0, hz1, hz2⟩ := info_parts infoI
  have hB1 : Below w.heap.size w (w.alloc (.cells (I64 nmE).toArray 22)) := (Below.refl _ _).alloc (Nat.le_refl _) _
  have hE : ∀ k : Nat, k < 11 → (w.alloc (.cells (I64 nmE).toArray 22)).cell? ⟨w.heap.size, k, none⟩ = some (.int .i64 (k : Int)) := fun k hk => by
    have h := (Locs.nil.new (w := w) (cs := (I64 nmE).toArray) (t := 22) rfl).rules.1 k
    rw [h]
    simp [I64, nmE_at hk]
  go_enter Try.func3, Try.ntmps3
  go_wp2
  go_loopw [2] (fun i wr => ∃ k : Nat, k ≤ 11 ∧ i = .int .i64 k ∧ wr = w.alloc (.cells (I64 nmE).toArray 22)) (fun i _ => 11 - (intOf i).toNat)
  case atStart => exact ⟨0, by omega, rfl, rfl⟩
  case round =>
    obtain ⟨k, hk, rfl, rfl⟩ := hrel
    by_cases hlt : k < 11
    · have c := hE k hlt
      have i1 : (0 : Int) ≤ (k : Int) := by omega
      have i2 : (k : Int) < 11 := by omega
      clear hE
      go_wp2
      go_roundw
      case rel => exact ⟨k + 1, by omega, by go_num, by simp⟩
      case measure => simp [intOf]; omega
    · have i2 : ¬ (k : Int) < 11 := by omega
      generalize w.alloc (.cells (I64 nmE).toArray 22) = w1 at *
      have hz1' := hB1.size
      have ha0 : (((w1.alloc (.cells (I64 nmA).toArray 3)).alloc (.cells (I64 nmA).toArray 3)).alloc (.cells (I64 nmB).toArray 3)).ownsRow w1.heap.size 3 1 (.slice (some ⟨w1.heap.size, 0, none⟩) 21 21) 21 (I64 nmA) :=
        own_lit (cs := I64 nmA) (blk_old (blk_old (blk_at rfl))) (by decide) (Nat.le_refl _)
      have hw0 : (((w1.alloc (.cells (I64 nmA).toArray 3)).alloc (.cells (I64 nmA).toArray 3)).alloc (.cells (I64 nmB).toArray 3)).ownsRow (w1.heap.size + 1) 3 1 (.slice (some ⟨w1.heap.size + 1, 0, none⟩) 21 21) 21 (I64 nmA) :=
        own_lit (cs := I64 nmA) (blk_old (blk_at (by simp))) (by decide) (Nat.le_refl _)
      have hB2 : Below w.heap.size w (((w1.alloc (.cells (I64 nmA).toArray 3)).alloc (.cells (I64 nmA).toArray 3)).alloc (.cells (I64 nmB).toArray 3)) := ((hB1.alloc hz1' _).alloc (by simp; omega) _).alloc (by simp; omega) _
      have Ha0 := Lib.hid ha0
      have Hw0 := Lib.hid hw0
      clear ha0 hw0 hE
      go_wp2_with (at_builtin; go_loud (refine wpList_append_own_at _ rfl (.tmp 23) (.tmp 24) _ rfl w1.heap.size 3 i0 _ 1 8 Try.underlying24 hi0 hz0 hz1 hz2 rfl (by omega) _ 21 (I64 nmA) rfl Ha0.out ⟨w1.heap.size + 1 + 1, 0, none⟩ 20 20 (I64 nmB) rfl rfl (World.news_of_block (cs := (I64 nmB).toArray) (t := 3) (fr := (0, 0)) (blk_at (by simp))) (by simp [I64, Value.oneCell']) (by unfold maxLen; omega) (by omega) (by simp; omega) ?next))
      case next =>
        intro v2 w2 hown2 hg2 _ hat2
        obtain ⟨A2, c2, rfl⟩ := own_form hown2
        obtain ⟨g2, rfl, -⟩ := own_pos hown2 (by omega)
        have hz2' : w1.heap.size + 1 + 1 + 1 ≤ w2.heap.size := by have := hg2.size; simpa using this
        have e2 : g2 = w1.heap.size ∨ g2 = w1.heap.size + 1 + 1 + 1 := by simpa [Value.ownBlock] using hat2
        have hb2 : Below w.heap.size w w2 := hB2.grown hg2 (by simp; omega) (fun k hk => by simp [Value.ownBlock] at hk; omega)
        have hw2 := own_keep (w' := w2) Hw0.out (Nat.le_refl _) (fun b hb => hg2.block b (own_lt Hw0.out hb).1 (fun e => by simp [Value.ownBlock] at hb e; omega))
        have Ha2 := Lib.hid (hown2.alloc (.cells (I64 nmC).toArray 3))
        have Hw2 := Lib.hid (hw2.alloc (.cells (I64 nmC).toArray 3))
        have hl2 := (own_lt hown2 (g := g2) rfl).1
        clear hown2 hg2 hat2 hw2
        go_wp2_with (at_builtin; go_loud (refine wpList_append_own_at _ rfl (.tmp 26) (.tmp 27) _ rfl w1.heap.size 3 i0 _ 1 8 Try.underlying24 hi0 hz0 hz1 hz2 rfl (by omega) _ 41 (I64 nmA ++ I64 nmB) rfl Ha2.out ⟨w2.heap.size, 0, none⟩ 9 9 (I64 nmC) rfl rfl (World.news_of_block (cs := (I64 nmC).toArray) (t := 3) (fr := (0, 0)) (heap_alloc_new w2 _)) (by simp [I64, Value.oneCell']) (by unfold maxLen; omega) (by omega) (by simp; omega) ?next))
        case next =>
          intro v3 w3 hown3 hg3 _ hat3
          obtain ⟨A3, c3, rfl⟩ := own_form hown3
          obtain ⟨g3, rfl, -⟩ := own_pos hown3 (by omega)
          have hz3' : w2.heap.size + 1 ≤ w3.heap.size := by have := hg3.size; simpa using this
          have e3 : g3 = g2 ∨ g3 = w2.heap.size + 1 := by simpa [Value.ownBlock] using hat3
          have hb3 : Below w.heap.size w w3 := (hb2.alloc (by omega) _).grown hg3 (by simp; omega) (fun k hk => by simp [Value.ownBlock] at hk; omega)
          have hw3 := own_keep (w' := w3) Hw2.out (Nat.le_refl _) (fun b hb => hg3.block b (own_lt Hw2.out hb).1 (fun e => by simp [Value.ownBlock] at hb e; omega))
          have Ha3 := Lib.hid hown3
          have Hw3 := Lib.hid hw3
          have hl3 := (own_lt hown3 (g := g3) rfl).1
          clear hown3 hg3 hat3 hw3
          go_wp2_with fail
          go_loopw [4, 5] (fun v i wr => ∃ (k : Nat) (A : Option Addr) (c : Nat), k ≤ 20 ∧ i = .int .i64 k ∧ v = .slice A (21 + k) c ∧ wr.ownsRow (w1.heap.size + 1) 3 1 (.slice A (21 + k) c) (21 + k) (I64 (nmA ++ nmB.take k)) ∧
              wr.ownsRow w1.heap.size 3 1 (.slice (some ⟨g3, 0, none⟩) 50 c3) 50 (I64 nmA ++ I64 nmB ++ I64 nmC) ∧ (Value.slice A (21 + k) c).ownBlock ≠ some g3 ∧ Below w.heap.size w wr ∧ w1.heap.size + 1 + 1 ≤ wr.heap.size) (fun _ i _ => 20 - (intOf i).toNat)
          case atStart => exact ⟨0, _, _, by omega, rfl, rfl, by simpa using Hw3.out, Ha3.out, fun e => by simp [Value.ownBlock] at e; omega, hb3, by omega⟩
          case round =>
            obtain ⟨k, A, c, hk, rfl, rfl, hown, hall, hne, hb, hz⟩ := hrel
            by_cases hlt : k < 20
            · have i1 : (k : Int) < 20 := by omega
              have Hown := Lib.hid hown
              have Hall := Lib.hid hall
              have Hne := Lib.hid hne
              have Ha := Lib.hid (hown.alloc (.cells #[.int .i64 (k : Int)] 3))
              have hg := (own_lt hall (g := g3) rfl).1
              have hg0 := (own_lt hall (g := g3) rfl).2
              clear hown hall hne
              go_wp2_with (at_builtin; go_loud (refine wpList_append_own_at _ rfl (.tmp 33) (.tmp 35) _ rfl (w1.heap.size + 1) 3 i0 _ 1 8 Try.underlying24 hi0 hz0 hz1 hz2 rfl (by omega) _ (21 + k) (I64 (nmA ++ nmB.take k)) rfl Ha.out ⟨wr.heap.size, 0, none⟩ 1 1 [.int .i64 (k : Int)] rfl rfl (World.news_of_block (cs := #[.int .i64 (k : Int)]) (t := 3) (fr := (0, 0)) (heap_alloc_new wr _)) (by simp [Value.oneCell']) (by unfold maxLen; omega) (by omega) (by simp; omega) ?next))
              case next =>
                intro v5 w5 hown5 hg5 _ hat5
                obtain ⟨A5, c5, rfl⟩ := own_form hown5
                have hz5 : wr.heap.size < w5.heap.size := by have := hg5.size; simp at this; omega
                have hb5 : Below w.heap.size w w5 := (hb.alloc (by omega) _).grown hg5 (by simp; omega) (fun g hg => by have := (own_lt Hown.out hg).2; omega)
                have hall5 := own_keep (w' := w5) (Hall.out.alloc (.cells #[.int .i64 (k : Int)] 3)) (Nat.le_refl _) (fun b hb' => hg5.block b (by simp [Value.ownBlock] at hb' ⊢; omega) (fun e => by simp [Value.ownBlock] at hb'; subst hb'; exact Hne.out e.symm))
                have hne5 : (Value.slice A5 (21 + k + 1) c5).ownBlock ≠ some g3 := fun e => by
                  rcases hat5 with h | h
                  · exact Hne.out (h ▸ e)
                  · rw [h] at e; injection e with e; (try simp at e); omega
                have Hown5 := Lib.hid hown5
                have Hall5 := Lib.hid hall5
                have Hne5 := Lib.hid hne5
                clear hown5 hall5 hne5 hg5 hat5
                go_wp2
                go_roundw
                case rel =>
                  refine ⟨k + 1, A5, c5, by omega, by go_num, rfl, ?_, Hall5.out, Hne5.out, hb5, by omega⟩
                  have h := Hown5.out
                  rw [nm_take (nmB_at hlt), show 21 + (k + 1) = 21 + k + 1 by omega]
                  simpa [I64, List.append_assoc] using h
                case measure => simp [intOf]; omega
            · have hkk : k = 20 := by omega
              subst hkk
              have i1 : ¬ ((20 : Nat) : Int) < 20 := by omega
              have Hw5 := Lib.hid hown
              have Ha5 := Lib.hid hall
              have Hn5 := Lib.hid hne
              clear hown hall hne
              go_wp2_with fail
              go_loopw [4, 6] (fun v i wr => ∃ (k : Nat) (A : Option Addr) (c : Nat), k ≤ 9 ∧ i = .int .i64 k ∧ v = .slice A (41 + k) c ∧ wr.ownsRow (w1.heap.size + 1) 3 1 (.slice A (41 + k) c) (41 + k) (I64 (nmA ++ nmB.take 20 ++ nmC.take k)) ∧
                  wr.ownsRow w1.heap.size 3 1 (.slice (some ⟨g3, 0, none⟩) 50 c3) 50 (I64 nmA ++ I64 nmB ++ I64 nmC) ∧ (Value.slice A (41 + k) c).ownBlock ≠ some g3 ∧ Below w.heap.size w wr ∧ w1.heap.size + 1 + 1 ≤ wr.heap.size) (fun _ i _ => 9 - (intOf i).toNat)
              case atStart => exact ⟨0, _, _, by omega, rfl, rfl, by simpa using Hw5.out, Ha5.out, Hn5.out, hb, hz⟩
              case round =>
                obtain ⟨k, A, c, hk, rfl, rfl, hown, hall, hne, hb, hz⟩ := hrel
                by_cases hlt : k < 9
                · have i1 : (k : Int) < 9 := by omega
                  have Hown := Lib.hid hown
                  have Hall := Lib.hid hall
                  have Hne := Lib.hid hne
                  have Ha := Lib.hid (hown.alloc (.cells #[.int .i64 (k : Int)] 3))
                  have hg := (own_lt hall (g := g3) rfl).1
                  have hg0 := (own_lt hall (g := g3) rfl).2
                  clear hown hall hne
                  go_wp2_with (at_builtin; go_loud (refine wpList_append_own_at _ rfl (.tmp 41) (.tmp 43) _ rfl (w1.heap.size + 1) 3 i0 _ 1 8 Try.underlying24 hi0 hz0 hz1 hz2 rfl (by omega) _ (41 + k) (I64 (nmA ++ nmB.take 20 ++ nmC.take k)) rfl Ha.out ⟨wr.heap.size, 0, none⟩ 1 1 [.int .i64 (k : Int)] rfl rfl (World.news_of_block (cs := #[.int .i64 (k : Int)]) (t := 3) (fr := (0, 0)) (heap_alloc_new wr _)) (by simp [Value.oneCell']) (by unfold maxLen; omega) (by omega) (by simp; omega) ?next))
                  case next =>
                    intro v5 w5 hown5 hg5 _ hat5
                    obtain ⟨A5, c5, rfl⟩ := own_form hown5
                    have hz5 : wr.heap.size < w5.heap.size := by have := hg5.size; simp at this; omega
                    have hb5 : Below w.heap.size w w5 := (hb.alloc (by omega) _).grown hg5 (by simp; omega) (fun g hg => by have := (own_lt Hown.out hg).2; omega)
                    have hall5 := own_keep (w' := w5) (Hall.out.alloc (.cells #[.int .i64 (k : Int)] 3)) (Nat.le_refl _) (fun b hb' => hg5.block b (by simp [Value.ownBlock] at hb' ⊢; omega) (fun e => by simp [Value.ownBlock] at hb'; subst hb'; exact Hne.out e.symm))
                    have hne5 : (Value.slice A5 (41 + k + 1) c5).ownBlock ≠ some g3 := fun e => by
                      rcases hat5 with h | h
                      · exact Hne.out (h ▸ e)
                      · rw [h] at e; injection e with e; (try simp at e); omega
                    have Hown5 := Lib.hid hown5
                    have Hall5 := Lib.hid hall5
                    have Hne5 := Lib.hid hne5
                    clear hown5 hall5 hne5 hg5 hat5
                    go_wp2
                    go_roundw
                    case rel =>
                      refine ⟨k + 1, A5, c5, by omega, by go_num, rfl, ?_, Hall5.out, Hne5.out, hb5, by omega⟩
                      have h := Hown5.out
                      rw [nm_take (nmC_at hlt), show 41 + (k + 1) = 41 + k + 1 by omega]
                      simpa [I64, List.append_assoc] using h
                    case measure => simp [intOf]; omega
                · have hkk : k = 9 := by omega
                  subst hkk
                  have i1 : ¬ ((9 : Nat) : Int) < 9 := by omega
                  have Hw6 := Lib.hid hown
                  have Ha6 := Lib.hid hall
                  have Hn6 := Lib.hid hne
                  clear hown hall hne
                  obtain ⟨w4, rfl⟩ : ∃ w4, w4 = wr := ⟨_, rfl⟩
                  obtain ⟨g6, hg6, -⟩ := own_pos Hw6.out (by omega)
                  subst hg6
                  go_wp2_with fail
                  go_loopw [7] (fun i wr => ∃ k : Nat, k ≤ 50 ∧ i = .int .i64 k ∧ ∃ q, wr = w4.drewN q) (fun i _ => 50 - (intOf i).toNat)
                  case atStart => exact ⟨0, by omega, rfl, 0, rfl⟩
                  case round =>
                    obtain ⟨k, hk, rfl, q, rfl⟩ := hrel
                    by_cases hlt : k < 50
                    · obtain ⟨x, hx⟩ : ∃ x, (I64 nmA ++ I64 nmB ++ I64 nmC)[k]? = some x := ⟨_, List.getElem?_eq_getElem (by simpa [I64, nmA, nmB, nmC] using hlt)⟩
                      have c1 := own_cell Ha6.out hx
                      have c2 := own_cell Hw6.out (show (I64 (nmA ++ nmB ++ nmC))[k]? = some x by simpa [I64] using hx)
                      have i1 : (0 : Int) ≤ (k : Int) := by omega
                      have i2 : (k : Int) < 50 := by omega
                      obtain ⟨y, rfl⟩ : ∃ y, x = .int .i64 y := by
                        have : x ∈ I64 (nmA ++ nmB ++ nmC) := by have := List.mem_of_getElem? hx; simpa [I64] using this
                        obtain ⟨y, _, rfl⟩ := List.mem_map.1 this
                        exact ⟨y, rfl⟩
                      clear hx
                      go_wp2
                      go_quiet (fail)
                      go_wp2
                      go_roundw
                      case rel => exact ⟨k + 1, by omega, by go_num, _, rfl⟩
                      case measure => simp [intOf]; omega
                    · have i2 : ¬ (k : Int) < 50 := by omega
                      go_wp2
                      go_ret
                      exact ⟨rfl, below_drewN hb q⟩
end Go.Proofs.Ytedimclljhgomaa
