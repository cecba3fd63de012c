/- The walk of the document's answer to heap.Alloc. No condition beside what is read. -/
import Derived.Test.YtedimclljhgomaaAlloc
import Derived.Test.YtedimclljhgomaaHeapCopy
namespace Go.Proofs.Ytedimclljhgomaa
open Go.RowKit

set_option maxRecDepth 100000 in
set_option maxHeartbeats 4000000 in
theorem allocOf_any (m : Int) (S : Nat → Prop) (A : Option Addr) (c : Nat) (os : List Ob) (f : Int) (w : World) (hr : RdSl obE w S (.slice A os.length c) os) :
    Calls Try.prog 22 #[.agg #[.int .i64 m, .slice A os.length c], .int .i64 f] w (Alloced w ⟨m, os⟩ f) := by
  have Hr := Lib.hid hr
  obtain ⟨-, h1, h2, h3⟩ := hr.lims
  obtain ⟨i0, hi0, hz0, hz1, hz2⟩ := info_parts infoO
  obtain ⟨iv, hiv, hv0, hv1, hv2⟩ := info_parts infoV
  have H3 : os.length * 32 ≤ 140737488355328 := h3
  clear hr h3
  have hB : Below w.heap.size w (((w.alloc (.cells #[.int .i64 m, .slice A os.length c] 35)).alloc (.cells #[.int .i64 0, .slice none 0 0] 35)).alloc (.cells #[.int .i64 0, .int .i64 0] 43)) :=
    (((Below.refl _ _).alloc (Nat.le_refl _) _).alloc (by simp) _).alloc (by simp; omega) _
  have L0 : Locs (((w.alloc (.cells #[.int .i64 m, .slice A os.length c] 35)).alloc (.cells #[.int .i64 0, .slice none 0 0] 35)).alloc (.cells #[.int .i64 0, .int .i64 0] 43))
      [(w.heap.size + 1 + 1, #[.int .i64 0, .int .i64 0], 43), (w.heap.size + 1, #[.int .i64 0, .slice none 0 0], 35), (w.heap.size, #[.int .i64 m, .slice A os.length c], 35)] :=
    ((Locs.nil.new rfl).new (by simp)).new (by simp)
  have nil0 : ∀ W : World, RdSl vE W (fun _ => True) (.slice none ([] : List V).length 0) [] := fun W => ⟨none, 0, rfl, Nat.le_refl _, Nat.zero_le _, by simp, fun h => absurd rfl h⟩
  have Nil0 := Lib.hid nil0
  have Hl0 := Lib.hid L0
  have HB := Lib.hid hB
  clear nil0 L0 hB
  by_cases he : allocE ⟨m, os⟩ f = 0
  · have eH : allocH ⟨m, os⟩ f = ⟨m, os ++ [zeroOb f.toNat]⟩ := if_pos he
    have eV : allocV ⟨m, os⟩ f = ⟨2, os.length⟩ := if_pos he
    unfold Alloced
    rw [eH, eV, he]
    have hk : hpB ⟨m, os⟩ [] = true ∧ 1 ≤ f ∧ f ≤ 4 ∧ (os.length : Int) ≠ m := by
      unfold allocE at he
      split at he
      · omega
      · rename_i hp
        split at he
        · omega
        · split at he
          · omega
          · exact ⟨by simpa using hp, by omega, by omega, by assumption⟩
    obtain ⟨hp, i1, i2, i3⟩ := hk
    have hlm : (os.length : Int) < m ∧ os.length + 1 ≤ 60 := by
      simp [hpB, limB] at hp
      omega
    obtain ⟨i4, hlen⟩ := hlm
    have Hp := Lib.hid hp
    obtain ⟨n, rfl⟩ := Int.eq_ofNat_of_zero_le (show 0 ≤ f by omega)
    have hin : (decide ((1 : Int) ≤ (n : Int)) && decide ((n : Int) ≤ 4)) = true := by simp; omega
    have Hin := Lib.hid hin
    clear he eH eV hp hin
    have j1 : (0 : Int) ≤ (n : Int) := by omega
    go_enter Try.func22, Try.ntmps22
    go_wp2_with fail
    refine (may_is m _ _ A none c 0 os [] _ _ Hp (Hr.out.below (by decide) HB.out) (Nil0.out _)).mono ?_
    rintro e w1 ⟨rfl, hb1⟩
    have Hl1 : w.heap.size + 1 + 1 < w1.heap.size := by have := hb1.size; simp at this; omega
    have L1 := Hl0.out.after hb1
    have hbb := below_after HB.out hb1
    have HL1 := Lib.hid L1
    obtain ⟨c0, f0, c1, f1, c2, f2, -⟩ := L1.rules
    clear L1
    go_wp2_with fail
    refine (in_any _ _ _ _).mono ?_
    rintro e w' ⟨rfl, rfl⟩
    rw [Hin.out]
    go_wp2_with fail
    refine (heapCopy_any m _ A c os _ (Hr.out.below (by decide) hbb)).mono ?_
    rintro e w2 ⟨v, vs, rfl, hsep, -, hb2⟩
    obtain ⟨A2, c2', rfl⟩ := own_form hsep.row
    have hz2' : w1.heap.size ≤ w2.heap.size := hb2.size
    have L2 := HL1.out.after hb2
    have hbb2 := below_after hbb hb2
    have HL2 := Lib.hid L2
    have Hsep := Lib.hid hsep
    obtain ⟨c0, f0, c1, f1, c2, f2, -⟩ := L2.rules
    clear L2 hsep
    go_wp2_with fail
    go_loopw [10] (fun i wr => ∃ (k : Nat) (v : Value), k ≤ n ∧ i = .int .i64 k ∧ Locs wr [(w2.heap.size + 1, #[v, .bool false], 60), (w2.heap.size, #[.int .i64 m, .slice A2 os.length c2'], 35)] ∧
        wr.ownsRow (w2.heap.size + 1 + 1) 43 2 v k (List.replicate k [Value.int .i64 0, .int .i64 0]).flatten ∧ Below w2.heap.size w2 wr ∧ w2.heap.size + 1 + 1 ≤ wr.heap.size) (fun i _ => n - (intOf i).toNat)
    case atStart =>
      exact ⟨0, .slice none 0 0, by omega, rfl, (Locs.nil.new rfl).new (by simp), ⟨rfl, .inl ⟨rfl, rfl⟩⟩, ((Below.refl _ _).alloc (Nat.le_refl _) _).alloc (by simp) _, by simp⟩
    case round =>
      obtain ⟨k, v, hk, rfl, hloc, hown, hb, hsz⟩ := hrel
      have HLr := Lib.hid hloc
      have Hown := Lib.hid hown
      obtain ⟨r0, g0, r1, g1, -⟩ := hloc.rules
      have lt1 : w2.heap.size + 1 < wr.heap.size := by omega
      by_cases hlt : k < n
      · have hlt' : (k : Int) < (n : Int) := by omega
        clear hloc hown
        go_wp2_with (at_builtin; refine wpList_append_own _ rfl (.tmp 39) (.tmp 41) _ rfl (w2.heap.size + 1 + 1) 43 iv _ 2 16 Try.underlying36 hiv hv0 hv1 hv2 rfl (by omega) _ k (List.replicate k [Value.int .i64 0, .int .i64 0]).flatten rfl (Hown.out.alloc _) ⟨wr.heap.size, 0, none⟩ 1 1 [.int .i64 0, .int .i64 0] rfl rfl (World.news_of_block (cs := #[.int .i64 0, .int .i64 0]) (t := 43) (fr := (0, 0)) (heap_alloc_new wr _)) (by simp [Value.oneCell']) (by unfold maxLen; omega) (by omega) (by simp; omega) ?next)
        case next =>
          intro v' w5 hown5 hgr5 _
          obtain ⟨A5, c5, rfl⟩ := own_form hown5
          have hz5 : wr.heap.size < w5.heap.size := by have := hgr5.size; simp at this; omega
          have L5 := (HLr.out.alloc _).grown hgr5 (fun e he => fun e' => by
            have h1 := (own_lt Hown.out e').2
            have h2 : e.1 ≤ w2.heap.size + 1 := by simp at he; rcases he with rfl | rfl <;> simp
            omega)
          have hb5 : Below w2.heap.size w2 w5 := (hb.alloc (by omega) _).grown hgr5 (by simp; omega) (fun g hg => by have := (own_lt Hown.out hg).2; omega)
          have HL5 := Lib.hid L5
          have Hown5 := Lib.hid hown5
          obtain ⟨r0', g0', -⟩ := L5.rules
          clear L5 hown5 hgr5 r0 g0 r1 g1
          go_wp2
          go_roundw
          case rel =>
            have L6 := HL5.out.set 0 rfl (by intro j e hj hne; match j, hj with | 0, _ => exact absurd rfl hne | 1, hj => (cases hj; simp)) 0 (.slice A5 (k + 1) c5)
            refine ⟨k + 1, .slice A5 (k + 1) c5, by omega, by go_num, L6, ?_, hb5.setCell (by show w2.heap.size ≤ w2.heap.size + 1; omega) _, by simp only [World.setCell, Array.size_modify]; omega⟩
            have h6 := ownsRow_setCell_below (a := ⟨w2.heap.size + 1, 0, none⟩) Hown5.out (by simp) (.slice A5 (k + 1) c5)
            rw [List.replicate_succ', List.flatten_append]
            simpa using h6
          case measure => simp [intOf]; omega
      · have hkk : k = n := by omega
        subst hkk
        obtain ⟨A4, c4, rfl⟩ := own_form hown
        have hlt' : ¬ (k : Int) < (k : Int) := by omega
        have hbbr := below_after hbb2 hb
        have hsepr : SepTo wr (fun _ => False) w1.heap.size (.slice A2 os.length c2') os vs os.length := Hsep.out.keep (Nat.le_refl _) (fun b _ hb' => hb.block b hb')
        have Hsepr := Lib.hid hsepr
        have HL3 := Lib.hid ((HL2.out.after hb))
        clear hown hloc hsepr c0 f0 c1 f1 c2 f2
        obtain ⟨c0, f0, c1, f1, c2, f2, -⟩ := HL3.out.rules
        go_wp2_with (at_builtin; go_loud (refine wpList_append_own _ rfl (.tmp 45) (.tmp 47) _ rfl w1.heap.size 60 i0 _ 2 32 Try.underlying33 hi0 hz0 hz1 hz2 rfl (by omega) _ os.length (rowsOf vs os).flatten rfl (Hsepr.out.row.alloc _) ⟨wr.heap.size, 0, none⟩ 1 1 [.slice A4 k c4, .bool false] rfl rfl (World.news_of_block (cs := #[.slice A4 k c4, .bool false]) (t := 60) (fr := (0, 0)) (heap_alloc_new wr _)) (by simp [Value.oneCell']) (by unfold maxLen; omega) (by omega) (by simp; omega) ?next))
        case next =>
          intro v' w5 hown5 hgr5 _
          obtain ⟨A5, c5, rfl⟩ := own_form hown5
          have hz5 : wr.heap.size < w5.heap.size := by have := hgr5.size; simp at this; omega
          have hrow := Hsepr.out.row
          have hrl : ∀ b, (Value.slice A2 os.length c2').ownBlock = some b → w1.heap.size ≤ b ∧ b < w2.heap.size := fun b hb' => ⟨(own_lt hrow hb').2, (own_lt Hsep.out.row hb').1⟩
          have L5 := (HL3.out.alloc _).grown hgr5 (fun e he => fun e' => by
            have h1 := (hrl _ e').1
            have h2 : e.1 ≤ w.heap.size + 1 + 1 := by simp at he; rcases he with rfl | rfl | rfl <;> simp <;> omega
            omega)
          have L5' := (HLr.out.alloc _).grown hgr5 (fun e he => fun e' => by
            have h1 := (hrl _ e').2
            have h2 : w2.heap.size ≤ e.1 := by simp at he; rcases he with rfl | rfl <;> simp
            omega)
          have hbb5 : Below w.heap.size w w5 := (hbbr.alloc (by omega) _).grown hgr5 (by simp; omega) (fun g hg => by have := (hrl g hg).1; omega)
          have hold : ∀ b, b < wr.heap.size → (Value.slice A2 os.length c2').ownBlock ≠ some b → w5.heap[b]? = wr.heap[b]? := fun b hb' hne =>
            (hgr5.block b (by simp; omega) hne.symm).trans (Below.heap_alloc _ _ _ hb')
          have hown4 : OwnSl vE wr (fun _ => False) (w2.heap.size + 1 + 1) 43 (.slice A4 k c4) (zeroOb k).fields :=
            ⟨_, held_zero wr k, by have := Hown.out; simpa [vE, zeroOb] using this, by simp [vE, zeroOb]; omega⟩
          have hsep5 : SepTo w5 (fun _ => False) w1.heap.size (.slice A5 (os.length + 1) c5) (os ++ [zeroOb k]) (vs ++ [.slice A4 k c4]) (os ++ [zeroOb k]).length := by
            refine Hsep.out.snoc hown5 (fun b hb' hne => (hold b (by omega) hne).trans (hb.block b hb')) ?_ (fun b hb' => by have := (hown4.lt hb').2; omega)
            refine hown4.keep (by omega) (fun b hb' => hold b (hown4.lt hb').1 (fun e => ?_)) (fun _ _ h => h.elim)
            have h1 := (hrl b e).2
            have h2 := (hown4.lt hb').2
            omega
          have HL5 := Lib.hid L5
          have HL5' := Lib.hid L5'
          have Hsep5 := Lib.hid hsep5
          obtain ⟨c0, f0, c1, f1, c2, f2, -⟩ := L5.rules
          obtain ⟨d0, q0, d1, q1, -⟩ := L5'.rules
          have n1 : w2.heap.size ≠ w.heap.size + 1 := by omega
          have n2 : w2.heap.size ≠ w.heap.size + 1 + 1 := by omega
          clear L5 L5' hsep5 hown4 hold hrl hrow hown5 hgr5 r0 g0 r1 g1
          go_wp2
          have L6 := HL5.out.far (a := ⟨w2.heap.size, 1, none⟩) (fun e he => by simp at he; rcases he with rfl | rfl | rfl <;> simp <;> omega) (u := .slice A5 (os.length + 1) c5)
          have L7 := (L6.set2 1 (.int .i64 m) (.slice A5 (os.length + 1) c5) rfl rfl (by simp <;> omega)).set2 0 (.int .i64 2) (.int .i64 os.length) rfl rfl (by simp <;> omega)
          obtain ⟨c0', -, c1', -⟩ := L7.rules
          have hS := ((((Hsep5.out.off (a := ⟨w2.heap.size, 1, none⟩) (t := 35) (HL5'.out.at_ 1 rfl) (by decide) (by decide) (.slice A5 (os.length + 1) c5)).far (a := ⟨w.heap.size + 1, 0, none⟩) (by show w.heap.size + 1 < _; omega) (.int .i64 m)).far (a := ⟨w.heap.size + 1, 1, none⟩) (by show w.heap.size + 1 < _; omega) (.slice A5 (os.length + 1) c5)).far
            (a := ⟨w.heap.size + 1 + 1, 0, none⟩) (by show w.heap.size + 1 + 1 < _; omega) (.int .i64 2)).far (a := ⟨w.heap.size + 1 + 1, 1, none⟩) (by show w.heap.size + 1 + 1 < _; omega) (.int .i64 os.length)
          have hl : (os ++ [zeroOb k]).length = os.length + 1 := by simp
          rw [← hl] at hS
          refine bodyPost_ret (v := _) ?_ rfl ⟨.agg #[.int .i64 m, .slice A5 (os.length + 1) c5], rfl, ?_, below_set2 (below_set2 (hbb5.setCell (by show w.heap.size ≤ w2.heap.size; omega) _) (by omega)) (by omega)⟩
          · simp [results, Try.results22, go_sem, c0', c1']
          · rw [← hl]
            exact RdH.of_sep hS (by simp; omega) (by omega)
  · have eH : allocH ⟨m, os⟩ f = ⟨0, []⟩ := if_neg he
    have eV : allocV ⟨m, os⟩ f = ⟨0, 0⟩ := if_neg he
    unfold Alloced
    rw [eH, eV]
    have hk : ∃ (k q : Bool) (r : Int), allocE ⟨m, os⟩ f = r ∧ hpB ⟨m, os⟩ [] = k ∧ (decide ((1 : Int) ≤ f) && decide (f ≤ 4)) = q ∧ ((k = false ∧ r = 8) ∨ (k = true ∧ r = 2 ∧ q = false) ∨ (k = true ∧ r = 7 ∧ q = true ∧ (os.length : Int) = m)) := by
      cases hp : hpB ⟨m, os⟩ []
      · exact ⟨_, _, 8, by simp [allocE, hp], rfl, rfl, .inl ⟨rfl, rfl⟩⟩
      · by_cases h : f < 1 ∨ 4 < f
        · exact ⟨_, _, 2, by simp [allocE, hp, h], rfl, rfl, .inr (.inl ⟨rfl, rfl, by simp; omega⟩)⟩
        · by_cases hm : (os.length : Int) = m
          · exact ⟨_, _, 7, by simp [allocE, hp, h, hm], rfl, rfl, .inr (.inr ⟨rfl, rfl, by simp; omega, hm⟩)⟩
          · exact absurd (by simp [allocE, hp, h, hm]) he
    obtain ⟨k, q, r, e1, hc, hq, hk⟩ := hk
    rw [e1]
    have Hc := Lib.hid hc
    have Hq := Lib.hid hq
    clear he eH eV e1 hc hq
    rcases hk with ⟨rfl, rfl⟩ | ⟨rfl, rfl, rfl⟩ | ⟨rfl, rfl, rfl, i3⟩
    all_goals
      go_enter Try.func22, Try.ntmps22
      go_wp2_with fail
      refine (may_is m _ _ A none c 0 os [] _ _ Hc (Hr.out.below (by decide) HB.out) (Nil0.out _)).mono ?_
      rintro e w1 ⟨rfl, hb1⟩
      have L1 := Hl0.out.after hb1
      have hbb := below_after HB.out hb1
      have HL1 := Lib.hid L1
      obtain ⟨c0, f0, c1, f1, c2, f2, -⟩ := L1.rules
      clear L1
      go_wp2_with (refine (in_any _ _ _ _).mono ?_; rintro e w' ⟨rfl, rfl⟩; rw [Hq.out])
      have L2 := (HL1.out.set2 1 (.int .i64 0) (.slice none 0 0) rfl rfl (by simp <;> omega)).set2 0 (.int .i64 0) (.int .i64 0) rfl rfl (by simp <;> omega)
      obtain ⟨c0', -, c1', -⟩ := L2.rules
      refine bodyPost_ret (v := _) ?_ rfl ⟨.agg #[.int .i64 0, .slice none 0 0], rfl, .zero, below_set2 (below_set2 hbb (by omega)) (by omega)⟩
      simp [results, Try.results22, go_sem, c0', c1']
end Go.Proofs.Ytedimclljhgomaa
