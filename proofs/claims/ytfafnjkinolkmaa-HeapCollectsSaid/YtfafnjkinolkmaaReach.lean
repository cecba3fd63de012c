/- The walk of the heap's own reckoning of what values lead to. No condition beside what is read, and that references are places of objects. -/
import Derived.Test.YtfafnjkinolkmaaCome
namespace Go.Proofs.Ytfafnjkinolkmaa
open Go.RowKit

/-- Objects and values whose references are places of objects, sixty at most. -/
structure RefsOk (os : List Ob) (roots : List V) : Prop where
  few : os.length ≤ 60
  fields : ∀ o ∈ os, RefsIn os.length o.fields
  roots : RefsIn os.length roots
theorem valB_refs {n : Nat} {l : List V} (h : l.all (valB n) = true) : RefsIn n l := fun v hv hk => valB_ref (List.all_eq_true.1 h v hv) hk
theorem hpB_refs {m : Int} {os : List Ob} {roots : List V} (h : hpB ⟨m, os⟩ roots = true) : RefsOk os roots := by
  simp only [hpB, limB, Bool.and_eq_true, decide_eq_true_eq] at h
  obtain ⟨⟨⟨⟨h1, h2⟩, h3⟩, h4⟩, h5⟩ := h
  refine ⟨by omega, fun o ho => ?_, valB_refs h5⟩
  have := List.all_eq_true.1 h4 o ho
  simp only [obB, Bool.and_eq_true] at this
  exact valB_refs this.1.2

/-- What the reckoning leaves. -/
def Reached (w : World) (os : List Ob) (roots : List V) (en : Ending) (w' : World) : Prop :=
  ∃ v l, en = .returned v ∧ Led os roots [] l ∧ Go.Proofs.Ytfafnjkinolkmaa.Told os.length l ∧ w'.ownsRow w.heap.size 3 1 v l.length (l.map (.int .i64)) ∧ Below w.heap.size w w'

set_option maxRecDepth 100000 in
set_option maxHeartbeats 4000000 in
theorem reach_any (m : Int) (S T : Nat → Prop) (A R : Option Addr) (c d : Nat) (os : List Ob) (roots : List V) (w : World) (hr : RdSl obE w S (.slice A os.length c) os) (hq : RdSl vE w T (.slice R roots.length d) roots) (hok : RefsOk os roots) :
    Calls Try.prog 38 #[.agg #[.int .i64 m, .slice A os.length c], .slice R roots.length d] w (Reached w os roots) := by
  obtain ⟨-, g1, g2, g3⟩ := hr.lims
  have hr' : RdSl obE w (fun b => b < w.heap.size) (.slice A os.length c) os := hr.keep (by decide) (fun b hb _ => ⟨hb, rfl⟩)
  have hq' : RdSl vE w (fun b => b < w.heap.size) (.slice R roots.length d) roots := hq.keep (by decide) (fun b hb _ => ⟨hb, rfl⟩)
  have Hr := Lib.hid hr'
  have Hq := Lib.hid hq'
  have Hok := Lib.hid hok
  have hfew := hok.few
  have hB : Below w.heap.size w ((((w.alloc (.cells #[.int .i64 m, .slice A os.length c] 26)).alloc (.cells #[.slice none 0 0] 48)).alloc (.map #[] 0)).alloc (.cells #[.map (some (w.heap.size + 1 + 1))] 80)) :=
    ((((Below.refl _ _).alloc (Nat.le_refl _) _).alloc (by simp) _).alloc (by simp; omega) _).alloc (by simp; omega) _
  have L0 : Locs ((((w.alloc (.cells #[.int .i64 m, .slice A os.length c] 26)).alloc (.cells #[.slice none 0 0] 48)).alloc (.map #[] 0)).alloc (.cells #[.map (some (w.heap.size + 1 + 1))] 80))
      [(w.heap.size + 1 + 1 + 1, #[.map (some (w.heap.size + 1 + 1))], 80), (w.heap.size + 1, #[.slice none 0 0], 48), (w.heap.size, #[.int .i64 m, .slice A os.length c], 26)] :=
    (((Locs.nil.new rfl).new (by simp)).alloc _).new (by simp)
  have hM : MapV Try.prog 3 4 (.bool false) ((((w.alloc (.cells #[.int .i64 m, .slice A os.length c] 26)).alloc (.cells #[.slice none 0 0] 48)).alloc (.map #[] 0)).alloc (.cells #[.map (some (w.heap.size + 1 + 1))] 80)) (w.heap.size + 1 + 1) 0 (fun i => .bool (decide (i ∈ ([] : List Int)))) := by
    have h1 := MapV.made (P := Try.prog) (kt := 3) (w := (w.alloc (.cells #[.int .i64 m, .slice A os.length c] 26)).alloc (.cells #[.slice none 0 0] 48)) (plainB false)
    have h2 : ((w.alloc (.cells #[.int .i64 m, .slice A os.length c] 26)).alloc (.cells #[.slice none 0 0] 48)).heap.size = w.heap.size + 1 + 1 := by simp
    rw [h2] at h1
    exact (h1.keep (Below.heap_alloc _ _ _ (by simp))).congr (fun k _ => by simp)
  have HL0 := Lib.hid L0
  have HM := Lib.hid hM
  clear hr hq hr' hq' hok g3 L0 hM
  have hmm := @run_makeMap Try.prog
  go_enter Try.func38, Try.ntmps38
  go_wp2_with fail
  refine (come_any os.length hfew roots R d (fun b => b < w.heap.size) _ w.heap.size (w.heap.size + 1 + 1 + 1) (w.heap.size + 1) (w.heap.size + 1 + 1) (w.heap.size + 1 + 1 + 1 + 1) [] (.slice none 0 0) (Hq.out.below (by decide) hB) Hok.out.roots .nil
    HL0.out.keep2 HM.out ⟨rfl, .inl ⟨rfl, rfl⟩⟩ (fun b hb => by omega) (by omega) (by omega) (by omega) (by simp) (by omega) (by omega) (by omega) (by omega) (by omega)).mono ?_
  rintro e w1 ⟨rfl, v1, hl1, hm1, ho1, hk1, hb1⟩
  have hbb1 := hB.trans hb1
  have hh1 : w1.heap[w.heap.size]? = some (.cells #[.int .i64 m, .slice A os.length c] 26 (0, 0)) := (hk1.old _ (by omega) (by omega) (by omega)).trans (HL0.out.at_ 2 rfl)
  have hz1 : w.heap.size + 1 + 1 + 1 + 1 ≤ w1.heap.size := by have := hk1.size; simp at this; omega
  have ht1 : Go.Proofs.Ytfafnjkinolkmaa.Told os.length (come [] roots) := Told.nil.come Hok.out.roots
  have hled1 : ∀ r, Led os (flatF os ((come [] roots).drop 0)) (come [] roots) r → Led os roots [] r := fun r h => by
    have := Led.row (os := os) (l := roots) (rest := []) (out := []) (nw := come [] roots) (r := r) (by simp) (by simpa using h)
    simpa using this
  have Hl1 := Lib.hid (Locs.cons (e := (w.heap.size, #[.int .i64 m, .slice A os.length c], 26)) hh1 hl1)
  have Hm1 := Lib.hid hm1
  have Ho1 := Lib.hid ho1
  have Ht1 := Lib.hid ht1
  have Hled1 := Lib.hid hled1
  clear hl1 hm1 ho1 hk1 hb1 hB hh1 ht1 hled1
  go_wp2_with fail
  go_loopw [8] (fun i wr => ∃ (k : Nat) (v : Value) (out : List Int), k ≤ out.length ∧ i = .int .i64 k ∧ Go.Proofs.Ytfafnjkinolkmaa.Told os.length out ∧
      Locs wr [(w.heap.size, #[.int .i64 m, .slice A os.length c], 26), (w.heap.size + 1 + 1 + 1, #[.map (some (w.heap.size + 1 + 1))], 80), (w.heap.size + 1, #[v], 48)] ∧
      MapV Try.prog 3 4 (.bool false) wr (w.heap.size + 1 + 1) out.length (fun i => .bool (decide (i ∈ out))) ∧
      wr.ownsRow (w.heap.size + 1 + 1 + 1 + 1) 3 1 v out.length (out.map (.int .i64)) ∧ (∀ r, Led os (flatF os (out.drop k)) out r → Led os roots [] r) ∧
      Below w.heap.size w wr ∧ w.heap.size + 1 + 1 + 1 + 1 ≤ wr.heap.size) (fun i _ => os.length - (intOf i).toNat)
  case atStart => exact ⟨0, v1, _, by omega, rfl, Ht1.out, Hl1.out, Hm1.out, Ho1.out, Hled1.out, hbb1, hz1⟩
  case round =>
    obtain ⟨k, v, out, hk, rfl, htold, hloc, hmv, hown, hled, hb, hz⟩ := hrel
    obtain ⟨Av, cv, rfl⟩ := own_form hown
    have holen := htold.len
    by_cases hlt : k < out.length
    · obtain ⟨g, rfl, hgb⟩ := own_pos hown (by omega)
      obtain ⟨n, hn⟩ : ∃ n, out[k]? = some n := ⟨out[k], List.getElem?_eq_getElem hlt⟩
      have hnw := htold.within n (List.mem_of_getElem? hn)
      obtain ⟨j, rfl⟩ := Int.eq_ofNat_of_zero_le hnw.1
      have hjl : j < os.length := by omega
      obtain ⟨o, ho⟩ : ∃ o, os[j]? = some o := ⟨os[j], List.getElem?_eq_getElem hjl⟩
      have kc : wr.cell? ⟨g, k, none⟩ = some (.int .i64 (j : Int)) := own_cell hown (by simp [hn])
      obtain ⟨b, p, D, cd, rfl, hbS, hbs, y0, y1, hfl⟩ := (Hr.out.below (by decide) hb).at_o ho
      have i1 : (0 : Int) ≤ (k : Int) := by omega
      have i2 : (k : Int) < (out.length : Int) := by omega
      have j1 : (0 : Int) ≤ (j : Int) := by omega
      have j2 : (j : Int) < (os.length : Int) := by omega
      have hfe : fieldsOf os (j : Int) = o.fields := by simp [fieldsOf, ho]
      have hrf : RefsIn os.length o.fields := Hok.out.fields o (List.mem_of_getElem? ho)
      obtain ⟨r0, q0, r1, q1, r2, q2, -⟩ := hloc.rules
      have Htold := Lib.hid htold
      have Hloc := Lib.hid hloc
      have Hmv := Lib.hid hmv
      have Hown := Lib.hid hown
      have Hled := Lib.hid hled
      have Hfl := Lib.hid hfl
      have Hn := Lib.hid hn
      have Hfe := Lib.hid hfe
      have Hrf := Lib.hid hrf
      clear htold hloc hmv hown hled hfl hn hfe hrf hnw ho
      go_wp2_with fail
      refine wp_region_plan [.still [0, 1, 2, 3, 4, 5, 6, 7, 8, 9], .loud 10 []] (by kernel_rfl) (by kernel_rfl) ?_
      refine plan_still ?_
      simp only [pick, List.getElem?_toArray, List.getElem?_cons_succ, List.getElem?_cons_zero]
      repeat still_step
      refine wpStill_nil ?_
      refine plan_loud ?_
      simp only [pick, List.getElem?_toArray, List.getElem?_cons_succ, List.getElem?_cons_zero]
      go_wp2_with fail
      refine (come_any os.length hfew o.fields D cd (fun b => b < w.heap.size) _ w.heap.size (w.heap.size + 1 + 1 + 1) (w.heap.size + 1) (w.heap.size + 1 + 1) (w.heap.size + 1 + 1 + 1 + 1) out (.slice (some ⟨g, 0, none⟩) out.length cv) (Hfl.out.below (by decide) (Below.refl _ _).drew) Hrf.out Htold.out
        Hloc.out.tail.drew (Hmv.out.keep rfl) Hown.out (fun b hb => by omega) (by omega) (by omega) (by omega) (by show _ ≤ wr.heap.size; omega) (by omega) (by omega) (by omega) (by omega) (by omega)).mono ?_
      rintro e w2 ⟨rfl, v2, hl2, hm2, ho2, hk2, hb2⟩
      have hb3 := hb.drew.trans hb2
      have hh2 : w2.heap[w.heap.size]? = some (.cells #[.int .i64 m, .slice (some ⟨b, p, none⟩) os.length c] 26 (0, 0)) := (hk2.old _ (by omega) (by omega) (by omega)).trans (Hloc.out.at_ 0 rfl)
      have hz2 : w.heap.size + 1 + 1 + 1 + 1 ≤ w2.heap.size := by have h := hk2.size; have h' : wr.drew.heap.size = wr.heap.size := rfl; omega
      have Hl2 := Lib.hid (Locs.cons (e := (w.heap.size, #[.int .i64 m, .slice (some ⟨b, p, none⟩) os.length c], 26)) hh2 hl2)
      have Hm2 := Lib.hid hm2
      have Ho2 := Lib.hid ho2
      clear hl2 hm2 ho2 hk2 hb2 hh2
      go_wp2_with fail
      refine ⟨trivial, ?_⟩
      refine plan_end (NoPanic.normal ?_)
      go_wp2
      go_roundw
      case rel =>
        obtain ⟨nw, hnw⟩ := come_pre o.fields out
        refine ⟨k + 1, v2, come out o.fields, by rw [hnw]; simp; omega, by go_num, Htold.out.come Hrf.out, Hl2.out, Hm2.out, Ho2.out, fun r h => Hled.out r ?_, hb3, hz2⟩
        have hd : out.drop k = (j : Int) :: out.drop (k + 1) := by
          rw [List.drop_eq_getElem_cons hlt]
          congr 1
          have := Hn.out
          rw [List.getElem?_eq_getElem hlt] at this
          injection this
        rw [hd]
        have he : flatF os ((j : Int) :: out.drop (k + 1)) = o.fields ++ flatF os (out.drop (k + 1)) := by simp [flatF, Hfe.out]
        rw [he]
        refine Led.row (nw := nw) hnw ?_
        rw [hnw] at h
        rw [← flatF_append, ← List.drop_append_of_le_length (by omega)]
        exact h
      case measure => simp [intOf]; omega
    · have hkk : k = out.length := by omega
      subst hkk
      obtain ⟨r0, q0, r1, q1, r2, q2, -⟩ := hloc.rules
      have hl := hled out (by rw [List.drop_length]; exact Led.done out)
      have Hown := Lib.hid (own_keep hown (show w.heap.size ≤ w.heap.size + 1 + 1 + 1 + 1 by omega) (fun _ _ => rfl))
      have Hl := Lib.hid hl
      have Htold := Lib.hid htold
      clear htold hloc hmv hown hled hl
      go_wp2
      go_ret
      exact ⟨_, out, rfl, Hl.out, Htold.out, Hown.out, hb⟩
end Go.Proofs.Ytfafnjkinolkmaa
