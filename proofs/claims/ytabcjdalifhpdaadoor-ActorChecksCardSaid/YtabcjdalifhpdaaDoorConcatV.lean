/- The walks of slices.Grow and slices.Concat at values. Condition: they are not long. -/
import Derived.Test.YtabcjdalifhpdaaDoorStD
import Derived.Test.YtabcjdalifhpdaaDoorCloneH
import Derived.Lib.AppendZeros
import Derived.Deep.AppendSrc
namespace Go.Proofs.YtabcjdalifhpdaaDoor
open Go.RowKit

abbrev vvE := slE vE (by decide)
def sumL (L : List (List V)) : Nat := (L.map List.length).sum
theorem sumL_take {L : List (List V)} {k : Nat} {l : List V} (h : L[k]? = some l) : sumL (L.take (k + 1)) = sumL (L.take k) + l.length := by
  unfold sumL
  rw [List.take_add_one, h]
  simp
theorem sumL_le (L : List (List V)) (k : Nat) : sumL (L.take k) ≤ sumL L := by
  unfold sumL
  conv => rhs; rw [← List.take_append_drop k L, List.map_append, List.sum_append]
  omega
def catL (L : List (List V)) (k : Nat) : List V := (L.take k).flatten
theorem catL_all (L : List (List V)) : catL L L.length = L.flatten := by unfold catL; rw [List.take_length]
theorem flat_take {L : List (List V)} {k : Nat} {l : List V} (h : L[k]? = some l) : catL L k ++ l = catL L (k + 1) := by
  unfold catL
  rw [List.take_add_one, h]
  simp
theorem flatV_len (L : List (List V)) : L.flatten.length = sumL L := by simp [sumL, List.length_flatten]
theorem catL_len (L : List (List V)) (k : Nat) : (catL L k).length ≤ sumL L := by
  unfold catL
  rw [flatV_len]
  exact sumL_le L k
theorem vcs_len (l : List V) : (cat (vcs l)).length = l.length * 2 := by
  induction l with
  | nil => rfl
  | cons x l ih => simp [cat, vcs] at *; omega
theorem vcs_uno (l : List V) : ∀ u ∈ cat (vcs l), u.oneCell' = true := fun u hu => by
  obtain ⟨cs, hc, h⟩ := List.mem_flatten.1 hu
  obtain ⟨x, _, rfl⟩ := List.mem_map.1 hc
  simp at h
  rcases h with rfl | rfl <;> rfl
theorem rdVc {w : World} {S : Nat → Prop} {A : Option Addr} {n c : Nat} {xs : List V} (h : RdSl vE w S (.slice A n c) xs) : ∀ ad, A = some ad → ∀ (j : Nat) (u : Value), (cat (vcs xs))[j]? = some u → w.cell? (ad.add j) = some u := fun ad hA j u hu => by
  obtain ⟨css, hH, hc⟩ := h.held
  obtain rfl := held_vcs hH
  exact hc ad hA j u hu
theorem vcs_app (l m : List V) : cat (vcs l) ++ cat (vcs m) = cat (vcs (l ++ m)) := by simp [vcs, cat]
theorem growV_any (n : Nat) (hn : n ≤ 1000) (w : World) : Calls Tryd.prog 121 #[.slice none 0 0, .int .i64 n] w fun e w' => ∃ A c, e = .returned (.slice A 0 c) ∧ w'.ownsRow w.heap.size 61 2 (.slice A 0 c) 0 (cat (vcs [])) ∧ Below w.heap.size w w' := by
  obtain ⟨iv, hiv, hv0, hv1, hv2⟩ := info_parts infoV
  by_cases h0 : n = 0
  · subst h0
    go_enter Tryd.func121, Tryd.ntmps121
    go_wp2
    go_ret
    exact ⟨none, 0, rfl, ⟨rfl, .inl ⟨rfl, rfl⟩⟩, Below.refl _ _⟩
  · have hpos : 0 < n := by omega
    have i1 : ¬ (n : Int) < 0 := by omega
    have i2 : (n : Int) > 0 := by omega
    have hA := Go.Lib.run_append_nil_zeros (P := Tryd.prog) w 52 3 52 61 iv (.agg #[.int .i64 0, .int .i64 0]) .i64 .i64 Tryd.underlying52 Tryd.underlying3 hiv hv0 n hpos (by rw [hv1]; omega) (by omega) (by rw [hv2]; omega)
    obtain ⟨G, hG⟩ : ∃ G, grownCap w n 0 61 = G := ⟨_, rfl⟩
    have hGn : n ≤ G := by rw [← hG]; exact grownCap_ge w _ _ _
    have hGm : G ≤ maxLen := by rw [← hG]; exact grownCap_le_maxLen w n 0 61 (by unfold maxLen; omega)
    rw [hG] at hA
    clear hG
    go_enter Tryd.func121, Tryd.ntmps121
    go_wp2_with (at_builtin; refine Go.Lib.wpList_append_run _ rfl _ _ _ _ rfl _ _ rfl rfl _ _ hA ?_)
    go_ret
    have hsz : (Builtin.zeroCells #[Value.int .i64 0, .int .i64 0] n ++ Builtin.zeroCells #[Value.int .i64 0, .int .i64 0] (G - n)).size = G * 2 := by
      simp [Builtin.zeroCells]
      omega
    generalize Builtin.zeroCells #[Value.int .i64 0, .int .i64 0] n ++ Builtin.zeroCells #[Value.int .i64 0, .int .i64 0] (G - n) = cs at hsz ⊢
    exact ⟨some ⟨w.heap.size, 0, none⟩, G, rfl, ⟨rfl, .inr ⟨w.heap.size, G, cs, rfl, Nat.le_refl _, by show (w.heap.push _)[w.heap.size]? = _; simp, Nat.zero_le _, hGm, hsz, by simp; rfl⟩⟩, ((Below.refl _ _).alloc (Nat.le_refl _) _).drew⟩
set_option maxRecDepth 100000 in
set_option maxHeartbeats 8000000 in
theorem concatV_any (S : Nat → Prop) (P : Option Addr) (c : Nat) (L : List (List V)) (w : World) (hs : L.length ≤ 10 ∧ sumL L ≤ 1000) (hr : RdSl vvE w S (.slice P L.length c) L) :
    Calls Tryd.prog 101 #[.slice P L.length c] w fun e w' => ∃ v, e = .returned v ∧ OwnSl vE w' (fun _ => False) w.heap.size 61 v L.flatten ∧ Below w.heap.size w w' := by
  have Hs := Lib.hid hs
  obtain ⟨-, h1, h2, h3⟩ := hr.lims
  have Hr := Lib.hid hr
  clear hr hs h3
  have T0 : St w.heap.size w w [] := St.start w (Nat.le_refl _)
  have HT := Lib.hid T0
  have hz : w.heap.size ≤ w.heap.size := by simp
  clear T0
  replace Hr : Hid (RdSl vvE w (Fr 0 []) (.slice P L.length c) L) := Lib.hid (RdSl.pool (E := vvE) Hr.out (by show 0 < 1; omega) HT.out)
  go_enter Tryd.func101, Tryd.ntmps101
  go_wp2_with fail
  go_loopw [11, 3] (fun i z wl1 => ∃ k : Nat, i = .int .i64 k ∧ z = .int .i64 ((sumL (L.take k) : Nat) : Int) ∧ k ≤ L.length ∧ St w.heap.size w wl1 [] ∧ RdSl vvE wl1 (Fr 0 []) (.slice P L.length c) L) (fun i _ _ => L.length - (intOf i).toNat)
  case atStart =>
    refine ⟨0, ?_, ?_, ?_, ?_, ?_⟩
    · rfl
    · rfl
    · exact Nat.zero_le _
    · with_reducible exact HT.out
    · with_reducible exact Hr.out
  case round =>
    generalize wr = wl1 at *
    clear HT Hr
    obtain ⟨k, rfl, rfl, hk, ht, pHr⟩ := hrel
    have HT := Lib.hid ht
    have Hr : Hid (RdSl vvE wl1 (Fr 0 []) (.slice P L.length c) L) := Lib.hid pHr
    clear ht pHr
    by_cases hlt : k < L.length
    · obtain ⟨l, hl⟩ : ∃ l, L[k]? = some l := ⟨L[k], List.getElem?_eq_getElem hlt⟩
      obtain ⟨fb, fo, lb, lc, rfl, _, _, y0, hrl⟩ := Hr.out.at_s hl
      have hsum := sumL_take (k := k) hl
      have hall := sumL_le L (k + 1)
      have hS := Hs.out
      have HL := Lib.hid hl
      have i1 : (0 : Int) ≤ (k : Int) := by omega
      have i2 : (k : Int) < (L.length : Int) := by omega
      clear hl
      have hz1 : sumL (L.take k) + l.length ≤ 1000 := by omega
      have Hsum := Lib.hid hsum
      generalize sumL (L.take k) = z at *
      clear hrl hall hS hsum
      have i3 : ¬ (z : Int) + (l.length : Int) < 0 := by omega
      go_wp2_with fail
      go_roundw
      case rel =>
        refine ⟨k + 1, ?_, ?_, ?_, ?_, ?_⟩
        · go_num
        · rw [Hsum.out]; go_num
        · omega
        · with_reducible exact HT.out
        · with_reducible exact Hr.out
      case measure => simp [intOf]; omega
    · have hkk : k = L.length := by omega
      subst hkk
      rw [List.take_length]
      have hS1 := Hs.out.2
      obtain ⟨z, hzz⟩ : ∃ z, sumL L = z := ⟨_, rfl⟩
      rw [hzz]
      have hz1 : z ≤ 1000 := by omega
      have Hz := Lib.hid hzz
      clear hzz
      have i2 : ¬ ((L.length : Nat) : Int) < (L.length : Int) := by omega
      clear hk hlt
      go_wp2_with fail
      refine (growV_any z hz1 _).mono ?_
      rintro en Wg ⟨Ag, cg, rfl, hown, hb⟩
      obtain ⟨T', K'⟩ := HT.out.ownRow hb hown (m := w.heap.size) HT.out.base
      replace HT := Lib.hid T'
      replace Hr := Lib.hid (Hr.out.move (by show 0 < 1; omega) K')
      clear T' K'
      clear hb hown
      go_wp2_with fail
      go_loopw [27, 6] (fun i vs wl2 => ∃ (k : Nat) (vo : Value), i = .int .i64 k ∧ vo = vs ∧ k ≤ L.length ∧ St w.heap.size w wl2 [.row w.heap.size 61 2 vo ((catL L k).length) (cat (vcs (catL L k)))] ∧ RdSl vvE wl2 (Fr 0 [.row w.heap.size 61 2 vo ((catL L k).length) (cat (vcs (catL L k)))]) (.slice P L.length c) L) (fun i _ _ => L.length - (intOf i).toNat)
      case atStart =>
        refine ⟨0, .slice Ag 0 cg, ?_, ?_, ?_, ?_, ?_⟩
        · rfl
        · rfl
        · exact Nat.zero_le _
        · exact HT.out
        · exact Hr.out
      case round =>
        generalize wr = wl2 at *
        clear HT Hr
        obtain ⟨k, vo, rfl, rfl, hk, ht, pHr⟩ := hrel
        have HT := Lib.hid ht
        have Hr : Hid (RdSl vvE wl2 (Fr 0 [.row w.heap.size 61 2 vo ((catL L k).length) (cat (vcs (catL L k)))]) (.slice P L.length c) L) := Lib.hid pHr
        clear ht pHr
        have hcl := catL_len L k
        obtain ⟨Ao, co, rfl⟩ := own_form (HT.out.own 0 rfl)
        have hsz := HT.out.base
        replace Hr : Hid (RdSl vvE wl2 (Fr 0 [.row w.heap.size 61 2 (.slice Ao (catL L k).length co) ((catL L k).length) (cat (vcs (catL L k)))]) (.slice P L.length c) L) := Hr
        by_cases hlt : k < L.length
        · obtain ⟨l, hl⟩ : ∃ l, L[k]? = some l := ⟨L[k], List.getElem?_eq_getElem hlt⟩
          obtain ⟨fb, fo, lb, lc, rfl, _, _, y0, hrl⟩ := Hr.out.at_s hl
          have hsum := sumL_take (k := k) hl
          have hall := sumL_le L (k + 1)
          have hS := Hs.out
          have HL := Lib.hid hl
          have i1 : (0 : Int) ≤ (k : Int) := by omega
          have i2 : (k : Int) < (L.length : Int) := by omega
          clear hl
          have Hrl := Lib.hid hrl
          have hfl := flat_take (k := k) HL.out
          have hln : (catL L k).length + l.length = (catL L (k + 1)).length := by rw [← hfl]; simp
          have hcl1 := catL_len L (k + 1)
          have hfl1 : (catL L k).length + l.length ≤ 1000 := by rw [hln]; omega
          clear hrl
          go_wp2_with (at_builtin; go_loud (refine wpList_append_stx rfl (.tmp 31) (.tmp 32) _ rfl (e := 61) (size := 2) (bytes := 16) Tryd.underlying52 infoV rfl (by omega) HT.out 0 rfl rfl lb l.length lc (cat (vcs l)) rfl (vcs_len _) (rdVc Hrl.out) (fun h => rd_none Hrl.out h) (vcs_uno _) (by unfold maxLen; omega) (by omega) HT.out.base ?next))
          case next =>
            intro A3 c4 W5 T' K' hs3
            try rw [vcs_app] at T' K'
            try rw [hfl] at T' K'
            try rw [hln] at T' K'
            replace T' : St w.heap.size w W5 [.row w.heap.size 61 2 (.slice A3 ((catL L (k + 1)).length) c4) ((catL L (k + 1)).length) (cat (vcs (catL L (k + 1))))] := T'
            replace K' : Keeps wl2 [.row w.heap.size 61 2 (.slice Ao (catL L k).length co) ((catL L k).length) (cat (vcs (catL L k)))] W5 [.row w.heap.size 61 2 (.slice A3 ((catL L (k + 1)).length) c4) ((catL L (k + 1)).length) (cat (vcs (catL L (k + 1))))] := K'
            replace HT := Lib.hid T'
            replace Hr := Lib.hid (Hr.out.move (by show 0 < 1; omega) K')
            clear T' K'
            clear Hrl
            go_wp2_with fail
            go_roundw
            case rel =>
              refine ⟨k + 1, .slice A3 ((catL L (k + 1)).length) c4, ?_, ?_, ?_, ?_, ?_⟩
              · go_num
              · rfl
              · omega
              · with_reducible exact HT.out
              · with_reducible exact Hr.out
            case measure => simp [intOf]; omega
        · have hkk : k = L.length := by omega
          subst hkk
          have i2 : ¬ ((L.length : Nat) : Int) < (L.length : Int) := by omega
          clear hk hlt
          go_wp2_with fail
          go_ret
          exact ⟨_, rfl, ⟨vcs L.flatten, vcs_held _, by rw [← catL_all]; exact HT.out.own 0 rfl, by have := Hs.out; rw [flatV_len]; show sumL L * 16 ≤ _; omega⟩, HT.out.below⟩
end Go.Proofs.YtabcjdalifhpdaaDoor
