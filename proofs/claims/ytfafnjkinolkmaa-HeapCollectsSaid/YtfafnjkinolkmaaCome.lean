/- The walk of the function that heap.reach makes: what a row of values adds to what is told. No condition beside what is read. -/
import Derived.Test.YtfafnjkinolkmaaMap
import Derived.Test.YtfafnjkinolkmaaLed
import Derived.Test.YtfafnjkinolkmaaSetSep
namespace Go.Proofs.Ytfafnjkinolkmaa
open Go.RowKit

theorem infoI : (Try.prog.info? 3).map (fun i => (i.zero, i.size, i.bytes)) = some (some (.int .i64 0), 1, 8) := by kernel_rfl
theorem zeroB (w : World) : (zeroValue 4).run Try.prog w = .ok (.bool false) w := by kernel_rfl
theorem plainB (x : Bool) : Go.plainElem (H := Unit) Try.prog 4 (.bool x) = some (.lit (.bool x), []) := plainElem_bool Try.underlying4 x
theorem wf60 {i : Int} (h : 0 ≤ i ∧ i < 60) : (Lit.int .i64 i).wf = true := WalkArith.wf_i64 (by omega)

/-- What the call keeps of the world. -/
structure Kept2 (base b1 b2 : Nat) (w w' : World) : Prop where
  old : ∀ b, b < base → b ≠ b1 → b ≠ b2 → w'.heap[b]? = w.heap[b]?
  size : w.heap.size ≤ w'.heap.size
theorem Kept2.refl {base b1 b2 : Nat} {w : World} : Kept2 base b1 b2 w w := ⟨fun _ _ _ _ => rfl, Nat.le_refl _⟩
theorem Kept2.trans {base b1 b2 : Nat} {w w' w2 : World} (h : Kept2 base b1 b2 w w') (h' : Kept2 base b1 b2 w' w2) : Kept2 base b1 b2 w w2 :=
  ⟨fun b h1 h2 h3 => (h'.old b h1 h2 h3).trans (h.old b h1 h2 h3), Nat.le_trans h.size h'.size⟩

set_option maxRecDepth 100000 in
set_option maxHeartbeats 4000000 in
theorem come_any (K : Nat) (hK : K ≤ 60) (l : List V) (R : Option Addr) (d : Nat) (S : Nat → Prop) (w : World) (B bs bo bm base : Nat) (out : List Int) (v : Value)
    (hl : RdSl vE w S (.slice R l.length d) l) (hr : RefsIn K l) (ht : Told K out)
    (hL : Locs w [(bs, #[.map (some bm)], 80), (bo, #[v], 48)])
    (hm : MapV Try.prog 3 4 (.bool false) w bm out.length (fun i => .bool (decide (i ∈ out))))
    (ho : w.ownsRow base 3 1 v out.length (out.map (.int .i64)))
    (hS : ∀ b, S b → b < base ∧ b ≠ bo ∧ b ≠ bm) (h1 : bs < base) (h2 : bo < base) (h3 : bm < base) (h4 : base ≤ w.heap.size) (h5 : bs ≠ bo) (h6 : bs ≠ bm) (h7 : bo ≠ bm) (h8 : B ≤ bo) (h9 : B ≤ bm) :
    Calls Try.prog 53 #[.slice R l.length d, .pointer (some ⟨bs, 0, none⟩), .pointer (some ⟨bo, 0, none⟩)] w fun e w' => e = .returned (.tuple #[]) ∧ ∃ v',
      Locs w' [(bs, #[.map (some bm)], 80), (bo, #[v'], 48)] ∧
      MapV Try.prog 3 4 (.bool false) w' bm (come out l).length (fun i => .bool (decide (i ∈ come out l))) ∧
      w'.ownsRow base 3 1 v' (come out l).length ((come out l).map (.int .i64)) ∧ Kept2 base bo bm w w' ∧ Below B w w' := by
  obtain ⟨-, g1, g2, g3⟩ := hl.lims
  have H3 : l.length * 16 ≤ 140737488355328 := g3
  obtain ⟨i0, hi0, hz0, hz1, hz2⟩ := info_parts infoI
  have Hl := Lib.hid hl
  have HrR := Lib.hid hr
  have Ht := Lib.hid ht
  have HL := Lib.hid hL
  have Hm := Lib.hid hm
  have Ho := Lib.hid ho
  have HS := Lib.hid hS
  clear hl hr ht hL hm ho hS g3
  go_enter Try.func53, Try.ntmps53
  go_wp2
  go_loopw [8] (fun i wr => ∃ (k : Nat) (v' : Value) (o : List Int), k ≤ l.length ∧ i = .int .i64 k ∧ o = come out (l.take k) ∧
      Locs wr [(bs, #[.map (some bm)], 80), (bo, #[v'], 48)] ∧
      MapV Try.prog 3 4 (.bool false) wr bm o.length (fun i => .bool (decide (i ∈ o))) ∧
      wr.ownsRow base 3 1 v' o.length (o.map (.int .i64)) ∧ Kept2 base bo bm w wr ∧ Below B w wr) (fun i _ => l.length - (intOf i).toNat)
  case atStart => exact ⟨0, v, out, by omega, rfl, by simp [come], HL.out, Hm.out, Ho.out, .refl, Below.refl _ _⟩
  case round =>
    obtain ⟨k, v', o, hk, rfl, hoc, hloc, hmv, hown, hkp, hb⟩ := hrel
    have hsz := hkp.size
    have hto : Told K o := by rw [hoc]; exact Ht.out.come (fun x hx => HrR.out x (List.mem_of_mem_take hx))
    have holen := hto.len
    by_cases hlt : k < l.length
    · obtain ⟨x, hx⟩ : ∃ x, l[k]? = some x := ⟨l[k], List.getElem?_eq_getElem hlt⟩
      have hlr : RdSl vE wr S (.slice R l.length d) l := Hl.out.keep (by decide) (fun b _ hS => ⟨hS, hkp.old b (HS.out b hS).1 (HS.out b hS).2.1 (HS.out b hS).2.2⟩)
      obtain ⟨b, p, rfl, _, hbs, y0, y1⟩ := hlr.at_v hx
      have hct := come_take out hx
      rw [← hoc] at hct
      have i1 : (0 : Int) ≤ (k : Int) := by omega
      have i2 : (k : Int) < (l.length : Int) := by omega
      obtain ⟨kk, hkk⟩ : ∃ kk, kk = x.k := ⟨_, rfl⟩
      rw [← hkk] at y0
      have hbA := hb.alloc (by omega) (.cells #[.int .i64 kk, .int .i64 x.n] 31)
      have HlocA := Lib.hid (hloc.alloc (.cells #[.int .i64 kk, .int .i64 x.n] 31))
      have HmvA := Lib.hid (hmv.keep (w' := wr.alloc (.cells #[.int .i64 kk, .int .i64 x.n] 31)) (Below.heap_alloc _ _ _ hmv.lt))
      have HownA := Lib.hid (hown.alloc (.cells #[.int .i64 kk, .int .i64 x.n] 31))
      have HkpA := Lib.hid (hkp.trans (w2 := wr.alloc (.cells #[.int .i64 kk, .int .i64 x.n] 31)) ⟨fun b hb' _ _ => Below.heap_alloc _ _ _ (by omega), by simp⟩)
      have HX := Lib.hid hx
      have Hct := Lib.hid hct
      have Hto := Lib.hid hto
      have HlocN := Lib.hid (hloc.new (cs := #[.int .i64 kk, .int .i64 x.n]) (t := 31) rfl)
      have z0 : bs < wr.heap.size := by omega
      have z1 : bo < wr.heap.size := by omega
      have hrx := HrR.out x (List.mem_of_getElem? hx)
      obtain ⟨r0, q0, r1, q1, -⟩ := hloc.rules
      clear hoc hloc hmv hown hkp hlr hx hct hto
      have Hkk := Lib.hid hkk
      clear hkk
      by_cases hk2 : kk = 2
      · subst hk2
        have hwf := wf60 (i := x.n) (by have := hrx Hkk.out.symm; omega)

        have hrun := HmvA.out.lookup (.inl Try.underlying4) Try.underlying3 Try.underlying80 (zeroB _) hwf
        by_cases hin : x.n ∈ o
        · have hin' : decide (x.n ∈ o) = true := by simpa using hin
          rw [hin'] at hrun
          go_wp2
          go_roundw
          case rel =>
            refine ⟨k + 1, v', o, by omega, by go_num, ?_, HlocA.out, HmvA.out, HownA.out, HkpA.out, hbA⟩
            rw [Hct.out, if_neg (by simp [fresh, hin])]
          case measure => simp [intOf]; omega
        · have hin' : decide (x.n ∈ o) = false := by simpa using hin
          rw [hin'] at hrun
          go_wp2_with (at_mapUpdate; go_loud (refine wpList_update_mv _ rfl _ _ _ 80 rfl 3 4 (.bool false) bm o.length _ Try.underlying3 Try.underlying80 rfl HmvA.out (by unfold maxLen; omega) x.n (.bool true) rfl rfl hwf _ (plainB true) ?next))
          case next =>
            intro w2 hm2 hg2
            have hb2 : Below B w w2 := hbA.grown hg2 (by simp; omega) (fun g hg => by cases hg; exact h9)
            have hzw2 : wr.heap.size < w2.heap.size := by have := hg2.size; simp at this; omega
            have L2 := HlocN.out.grown hg2 (fun e he => by simp at he; rcases he with rfl | rfl | rfl <;> simp <;> omega)
            have hown2 := own_keep HownA.out (Nat.le_refl _) (fun b hb' => hg2.block b (own_lt HownA.out hb').1 (fun e => by injection e with e; have := (own_lt HownA.out hb').2; omega))
            have hkp2 := HkpA.out.trans (w2 := w2) ⟨fun b hb' _ hne => hg2.block b (by simp; omega) (by simpa using hne), hg2.size⟩
            have HL2 := Lib.hid L2
            have Hown2 := Lib.hid hown2
            have Hm2 := Lib.hid hm2
            have Hkp2 := Lib.hid hkp2
            obtain ⟨r2, q2, r3, q3, r4, q4, -⟩ := L2.rules
            clear L2 hown2 hm2 hkp2 hg2 r0 q0 r1 q1
            go_wp2_with (at_builtin; go_loud (refine wpList_append_own _ rfl (.tmp 25) (.tmp 28) _ rfl base 3 i0 _ 1 8 Try.underlying48 hi0 hz0 hz1 hz2 rfl (by omega) _ o.length (o.map (.int .i64)) rfl (Hown2.out.alloc _) ⟨w2.heap.size, 0, none⟩ 1 1 [.int .i64 x.n] rfl rfl (World.news_of_block (cs := #[.int .i64 x.n]) (t := 3) (fr := (0, 0)) (heap_alloc_new w2 _)) (by simp [Value.oneCell']) (by unfold maxLen; omega) (by omega) (by simp; omega) ?next))
            case next =>
              intro v5 w5 hown5 hgr5 _
              obtain ⟨A5, c5, rfl⟩ := own_form hown5
              have hz5 : w2.heap.size < w5.heap.size := by have := hgr5.size; simp at this; omega
              have hvb : ∀ g, v'.ownBlock = some g → base ≤ g := fun g hg => (own_lt Hown2.out hg).2
              have L5 := ((HL2.out.tail).alloc _).grown hgr5 (fun e he => fun e' => by
                have h1' := hvb _ e'
                simp at he
                rcases he with rfl | rfl
                · simp at h1'; omega
                · simp at h1'; omega)
              have hb5 : Below B w w5 := (hb2.alloc (by omega) _).grown hgr5 (by simp; omega) (fun g hg => by have := hvb g hg; omega)
              have hm5 := Hm2.out.keep (w' := w5) ((hgr5.block bm (by simp; omega) (fun e => by have := hvb bm e.symm; omega)).trans (Below.heap_alloc _ _ _ (by omega)))
              have hkp5 := Hkp2.out.trans (w2 := w5) ⟨fun b hb' _ _ => (hgr5.block b (by simp; omega) (fun e => by have := hvb b e.symm; omega)).trans (Below.heap_alloc _ _ _ (by omega)), by omega⟩
              have HL5 := Lib.hid L5
              have Hown5 := Lib.hid hown5
              have Hm5 := Lib.hid hm5
              have Hkp5 := Lib.hid hkp5
              obtain ⟨r0, q0, r1, q1, -⟩ := L5.rules
              clear L5 hown5 hm5 hkp5 hgr5 hvb r2 q2 r3 q3 r4 q4
              go_wp2
              have L6 := HL5.out.set 1 rfl (by intro j e hj hne; match j, hj with | 0, hj => (cases hj; exact h5) | 1, _ => exact absurd rfl hne) 0 (.slice A5 (o.length + 1) c5)
              have hown6 := ownsRow_setCell_below (a := ⟨bo, 0, none⟩) Hown5.out h2 (.slice A5 (o.length + 1) c5)
              go_roundw
              case rel =>
                have hfr : fresh o x = true := by simp [fresh, hin, Hkk.out.symm]
                refine ⟨k + 1, .slice A5 (o.length + 1) c5, o ++ [x.n], by omega, by go_num, by rw [Hct.out, if_pos hfr], L6, ?_, ?_, Hkp5.out.trans ⟨fun b _ hne _ => Below.heap_setCell _ _ _ _ hne, by simp [World.setCell]⟩, hb5.setCell h8 _⟩
                · refine ((Hm5.out.keep (Below.heap_setCell _ _ _ _ (Ne.symm h7))).congr (fun i _ => ?_)).mono (by simp)
                  by_cases hix : i = x.n <;> simp [hix]
                · simpa using hown6
              case measure => simp [intOf]; omega
      · have hk2' : (kk == 2) = false := by simpa using hk2
        go_wp2
        go_roundw
        case rel =>
          refine ⟨k + 1, v', o, by omega, by go_num, ?_, HlocA.out, HmvA.out, HownA.out, HkpA.out, hbA⟩
          rw [Hct.out, if_neg (by simp [fresh, ← Hkk.out, hk2])]
        case measure => simp [intOf]; omega
    · have hkk : k = l.length := by omega
      have hx : l.take k = l := List.take_of_length_le (by omega)
      rw [hx] at hoc
      subst hoc
      have Hloc := Lib.hid hloc
      have Hmv := Lib.hid hmv
      have Hown := Lib.hid hown
      have Hkp := Lib.hid hkp
      subst hkk
      clear hloc hmv hown hkp hx hto holen
      go_wp2
      go_end0
      exact ⟨rfl, v', Hloc.out, Hmv.out, Hown.out, Hkp.out, hb⟩
end Go.Proofs.Ytfafnjkinolkmaa
