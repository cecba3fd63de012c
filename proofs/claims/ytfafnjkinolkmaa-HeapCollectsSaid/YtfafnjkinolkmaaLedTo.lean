/- The walk of the document's reckoning of what values lead to, row by row. No condition beside what is read, that references are places of objects, and that an object has few fields. -/
import Derived.Test.YtfafnjkinolkmaaReach
import Derived.Test.YtfafnjkinolkmaaHas
import Derived.Test.YtfafnjkinolkmaaAppAny
import Derived.Test.YtfafnjkinolkmaaCloneV
namespace Go.Proofs.Ytfafnjkinolkmaa
open Go.RowKit

/-- A slice's length. -/
def lenOf : Value → Nat
  | .slice _ n _ => n
  | _ => 0
/-- Blocks that were there, and rows of values. -/
def RowS (n : Nat) (w : World) (b : Nat) : Prop := b < n ∨ ∃ cs, w.heap[b]? = some (.cells cs 31 (0, 0))

theorem flatF_len {os : List Ob} (hs : ∀ o ∈ os, o.fields.length ≤ 4) : ∀ l : List Int, (flatF os l).length ≤ 4 * l.length
  | [] => by simp [flatF]
  | i :: l => by
    have ih := flatF_len hs l
    have h : (fieldsOf os i).length ≤ 4 := by
      unfold fieldsOf
      split
      · rename_i o ho
        exact hs o (List.mem_of_getElem? ho)
      · simp
    have e : flatF os (i :: l) = fieldsOf os i ++ flatF os l := by simp [flatF]
    rw [e, List.length_append, List.length_cons]
    omega
theorem flatF_refs {n : Nat} {os : List Ob} (h : ∀ o ∈ os, RefsIn n o.fields) (l : List Int) : RefsIn n (flatF os l) := fun v hv => by
  obtain ⟨fs, hf, hv⟩ := List.mem_flatten.1 hv
  obtain ⟨i, _, rfl⟩ := List.mem_map.1 hf
  exact refs_fields h i v hv
theorem own_i {w : World} {base : Nat} {A : Option Addr} {c : Nat} {l : List Int} (h : w.ownsRow base 3 1 (.slice A l.length c) l.length (l.map (.int .i64))) (hs : l.length * 8 ≤ 140737488355328) : OwnSl iE w (fun _ => False) base 3 (.slice A l.length c) l :=
  ⟨l.map (fun i => [.int .i64 i]), ⟨by simp, fun i x cs hx hc => by
    rw [List.getElem?_map, hx] at hc
    simp at hc
    subst hc
    exact ⟨rfl, rfl⟩⟩, by
    have e : (l.map (fun i => [Value.int .i64 i])).flatten = l.map (.int .i64) := by
      clear h hs
      induction l with
      | nil => rfl
      | cons a l ih => simp at ih ⊢; exact ih
    rw [e]; exact h, hs⟩

theorem OwnSl.rdOwn {α : Type} {E : El α} {w : World} {S : Nat → Prop} {base : Nat} {e : TypeId} {v : Value} {xs : List α} (h : OwnSl E w S base e v xs) : RdSl E w (fun b => S b ∨ v.ownBlock = some b) v xs := by
  obtain ⟨css, hH, hown, hb⟩ := h
  rcases hown.2 with ⟨rfl, h0⟩ | ⟨g, cap, cur, rfl, hg, _, hn, hm, _⟩
  · refine ⟨none, 0, by rw [h0], by omega, Nat.zero_le _, hb, fun hne => absurd (List.eq_nil_of_length_eq_zero h0) hne⟩
  · refine ⟨_, cap, rfl, hn, hm, hb, fun _ => ⟨g, 0, rfl, .inr rfl, fun i x hx => ?_⟩⟩
    have hil : i < xs.length := (List.getElem?_eq_some_iff.1 hx).1
    have hc : css[i]? = some (css[i]'(by rw [hH.len]; exact hil)) := List.getElem?_eq_getElem _
    obtain ⟨h1, h2⟩ := hH.each i x _ hx hc
    refine ⟨_, h1, E.keep (fun b _ hS => ⟨.inl hS, rfl⟩) h2, fun j u hu => ?_⟩
    have := hown.cells (g := g) rfl _ u (flat_at hH.size hc hu)
    rw [← this, addr_add, Nat.zero_add, Nat.zero_add]
theorem RdSl.none_nil {α : Type} {E : El α} {w : World} {S : Nat → Prop} {A : Option Addr} {n c : Nat} {xs : List α} (h : RdSl E w S (.slice A n c) xs) (hA : A = none) : n = 0 := by
  obtain ⟨A', c', hv, _, _, _, h4⟩ := h
  cases hv
  by_cases hne : xs = []
  · simp [hne]
  · obtain ⟨b, o, hb, _⟩ := h4 hne
    rw [hA] at hb
    cases hb
set_option maxRecDepth 100000 in
set_option maxHeartbeats 4000000 in
theorem ledTo_any (m : Int) (S T : Nat → Prop) (A R : Option Addr) (c d : Nat) (os : List Ob) (roots : List V) (w : World) (hr : RdSl obE w S (.slice A os.length c) os) (hq : RdSl vE w T (.slice R roots.length d) roots) (hok : RefsOk os roots) (hslim : ∀ o ∈ os, o.fields.length ≤ 4) :
    Calls Try.prog 43 #[.agg #[.int .i64 m, .slice A os.length c], .slice R roots.length d] w (Reached w os roots) := by
  obtain ⟨-, g1, g2, g3⟩ := hr.lims
  obtain ⟨iv, hiv, hv0, hv1, hv2⟩ := info_parts infoV
  obtain ⟨ii, hii, hi0, hi1, hi2⟩ := info_parts infoI
  have hB : Below w.heap.size w (w.alloc (.cells #[.int .i64 m, .slice A os.length c] 26)) := (Below.refl _ _).alloc (Nat.le_refl _) _
  have L0 : Locs (w.alloc (.cells #[.int .i64 m, .slice A os.length c] 26)) [(w.heap.size, #[.int .i64 m, .slice A os.length c], 26)] := Locs.nil.new rfl
  have hr' : RdSl obE w (fun b => b < w.heap.size) (.slice A os.length c) os := hr.keep (by decide) (fun b hb _ => ⟨hb, rfl⟩)
  have Hr := Lib.hid hr'
  have hq0 : RdSl vE (w.alloc (.cells #[.int .i64 m, .slice A os.length c] 26)) (RowS w.heap.size (w.alloc (.cells #[.int .i64 m, .slice A os.length c] 26))) (.slice R roots.length d) roots :=
    hq.keep (by decide) (fun b hb _ => ⟨.inl hb, Below.heap_alloc _ _ _ hb⟩)
  have Hq := Lib.hid hq0
  have Hok := Lib.hid hok
  have Hslim := Lib.hid hslim
  have HL0 := Lib.hid L0
  have hfew := hok.few
  clear hr hr' hq hq0 hok hslim L0 g3
  go_enter Try.func43, Try.ntmps43
  go_wp2
  go_loopw [5, 6] (fun vo vr wr => ∃ (out : List Int) (row : List V) (co : Nat) (Ao Ar : Option Addr) (cr : Nat), vo = .slice Ao out.length co ∧ vr = .slice Ar row.length cr ∧ Go.Proofs.Ytfafnjkinolkmaa.Told os.length out ∧ RefsIn os.length row ∧
      Locs wr [(w.heap.size, #[.int .i64 m, .slice A os.length c], 26)] ∧ wr.ownsRow (w.heap.size + 1) 3 1 (.slice Ao out.length co) out.length (out.map (.int .i64)) ∧
      RdSl vE wr (RowS w.heap.size wr) (.slice Ar row.length cr) row ∧ (∀ r, Led os row out r → Led os roots [] r) ∧ Below w.heap.size w wr ∧ w.heap.size + 1 ≤ wr.heap.size)
      (fun vo vr _ => 2 * (os.length - lenOf vo) + min 1 (lenOf vr))
  case atStart => exact ⟨[], roots, 0, none, R, d, rfl, rfl, .nil, Hok.out.roots, HL0.out, ⟨rfl, .inl ⟨rfl, rfl⟩⟩, Hq.out, fun _ h => h, hB, by simp⟩
  case round =>
    obtain ⟨out0, row, co, Ao, Ar, cr, rfl, rfl, htold, hrefs, hloc, hown, hrow, hled, hb, hz⟩ := hrel
    obtain ⟨-, e1, e2, e3⟩ := hrow.lims
    have Htold := Lib.hid htold
    have Hrefs := Lib.hid hrefs
    have Hloc := Lib.hid hloc
    have Hown := Lib.hid hown
    have Hrow := Lib.hid hrow
    have Hled := Lib.hid hled
    clear htold hrefs hloc hown hrow hled
    by_cases hne : row.length = 0
    · have hrn : row = [] := List.eq_nil_of_length_eq_zero hne
      subst hrn
      have Hl := Lib.hid (Hled.out out0 (Led.done out0))
      go_wp2
      go_ret
      exact ⟨_, out0, rfl, Hl.out, Htold.out, own_keep Hown.out (by omega) (fun _ _ => rfl), hb⟩
    · have hpos : (0 : Int) < (row.length : Int) := by omega
      have hpos' : 0 < row.length := by omega
      obtain ⟨w0, rfl⟩ : ∃ w0, w0 = wr := ⟨_, rfl⟩
      have hzr : w.heap.size < w0.heap.size := by omega
      have hto0 := Htold.out
      go_wp2_with fail
      go_loopw [5, 7, 8] (fun vo vn i wr => ∃ (k : Nat) (out nw : List Int) (nx : List V) (co : Nat) (Ao An : Option Addr) (cn : Nat), k ≤ row.length ∧ i = .int .i64 k ∧ vo = .slice Ao out.length co ∧ vn = .slice An nx.length cn ∧
          come out0 (row.take k) = out ∧ out = out0 ++ nw ∧ nx = flatF os nw ∧ Locs wr [(w.heap.size, #[.int .i64 m, .slice A os.length c], 26)] ∧ wr.ownsRow (w.heap.size + 1) 3 1 (.slice Ao out.length co) out.length (out.map (.int .i64)) ∧
          OwnSl vE wr (fun _ => False) w0.heap.size 31 (.slice An nx.length cn) nx ∧ (∀ b, b < w0.heap.size → RowS w.heap.size w0 b → wr.heap[b]? = w0.heap[b]?) ∧ Below w.heap.size w wr ∧ w0.heap.size ≤ wr.heap.size)
          (fun _ _ i _ => row.length - (intOf i).toNat)
      case atStart => exact ⟨0, out0, [], [], co, Ao, none, 0, by omega, rfl, rfl, rfl, by simp [come], by simp, by simp [flatF], Hloc.out, Hown.out, ⟨[], Held.nil, ⟨rfl, .inl ⟨rfl, rfl⟩⟩, by simp⟩, fun _ _ _ => rfl, hb, Nat.le_refl _⟩
      case round =>
        obtain ⟨k, out, nw, nx, co1, Ao1, An, cn, hk, rfl, rfl, rfl, hco, hnw, hnx, hloc, hown, hnext, hsame, hb1, hz1⟩ := hrel
        have htold : Go.Proofs.Ytfafnjkinolkmaa.Told os.length out := by rw [← hco]; exact hto0.come (fun x hx => Hrefs.out x (List.mem_of_mem_take hx))
        have holen := htold.len
        have hnwl : nw.length ≤ os.length := by
          have h : out.length = out0.length + nw.length := by rw [hnw]; simp
          omega
        have hnxl : nx.length ≤ 240 := by
          have := flatF_len Hslim.out nw
          rw [hnx]
          omega
        obtain ⟨r0, q0, -⟩ := hloc.rules
        have hwz : w.heap.size < wr.heap.size := by omega
        by_cases hlt : k < row.length
        · obtain ⟨x, hx⟩ : ∃ x, row[k]? = some x := ⟨row[k], List.getElem?_eq_getElem hlt⟩
          have hrow1 : RdSl vE wr (RowS w.heap.size w0) (.slice Ar row.length cr) row := Hrow.out.keep (by decide) (fun b hb' hS => ⟨hS, hsame b hb' hS⟩)
          obtain ⟨b, p, rfl, _, hbs, y0, y1⟩ := hrow1.at_v hx
          have hct := come_take out0 hx
          rw [hco] at hct
          have hrx := Hrefs.out x (List.mem_of_getElem? hx)
          obtain ⟨kk, hkk⟩ : ∃ kk, kk = x.k := ⟨_, rfl⟩
          rw [← hkk] at y0
          have i1 : (0 : Int) ≤ (k : Int) := by omega
          have i2 : (k : Int) < (row.length : Int) := by omega
          have Hkk := Lib.hid hkk
          have Hx := Lib.hid hx
          have Hct := Lib.hid hct
          have Hnw := Lib.hid hnw
          have Hnx := Lib.hid hnx
          have Hloc1 := Lib.hid hloc
          have Hown1 := Lib.hid hown
          have Hnext := Lib.hid hnext
          have Hsame := Lib.hid hsame
          have Htold1 := Lib.hid htold
          have Hro := Lib.hid ((own_i hown (by omega)).rd)
          clear hkk hx hct hnw hnx hloc hown hnext hsame htold hrow1 hco hto0
          by_cases hk2 : kk = 2
          · subst hk2
            have hrx2 := hrx Hkk.out.symm
            by_cases hin : x.n ∈ out
            · have hin' : decide (x.n ∈ out) = true := by simpa using hin
              have Hin := Lib.hid hin'
              have Hi := Lib.hid hin
              clear hin hin'
              go_wp2_with fail
              refine (has_is _ Ao1 co1 out x.n _ true Hin.out Hro.out).mono ?_
              rintro e w1 ⟨rfl, rfl⟩
              go_wp2
              go_roundw
              case rel =>
                refine ⟨k + 1, out, nw, nx, co1, Ao1, An, cn, by omega, by go_num, rfl, rfl, ?_, Hnw.out, Hnx.out, Hloc1.out, Hown1.out, Hnext.out, Hsame.out, hb1, hz1⟩
                rw [Hct.out, if_neg (by simp [fresh, Hi.out])]
              case measure => simp [intOf]; omega
            · have hin' : decide (x.n ∈ out) = false := by simpa using hin
              have Hin := Lib.hid hin'
              have Hi := Lib.hid hin
              obtain ⟨j, hj⟩ := Int.eq_ofNat_of_zero_le hrx2.1
              have hjl : j < os.length := by omega
              obtain ⟨o, ho⟩ : ∃ o, os[j]? = some o := ⟨os[j], List.getElem?_eq_getElem hjl⟩
              have hfe : fieldsOf os x.n = o.fields := by simp [fieldsOf, hj, ho]
              have hofl : o.fields.length ≤ 4 := Hslim.out o (List.mem_of_getElem? ho)
              obtain ⟨bo, po, D, cd, rfl, hbS, hbo, z0, z1, hfl⟩ := (Hr.out.below (by decide) hb1).at_o ho
              rw [hj] at y1
              have Hj := Lib.hid hj
              have Ho := Lib.hid ho
              have Hfe := Lib.hid hfe
              have j1 : (0 : Int) ≤ (j : Int) := by omega
              have j2 : (j : Int) < (os.length : Int) := by omega
              have hnj : ((2 : Int) == 2) = true := rfl
              have Hfl := Lib.hid hfl
              have hov : ∀ g, (Value.slice Ao1 out.length co1).ownBlock = some g → w.heap.size + 1 ≤ g := fun g hg => (own_lt Hown1.out hg).2
              have Hov := Lib.hid hov
              clear hin hin' hj ho hfe hfl hov hrx hrx2
              go_wp2_with fail
              refine (has_is _ Ao1 co1 out (j : Int) _ false (by rw [← Hj.out]; exact Hin.out) Hro.out).mono ?_
              rintro e w1 ⟨rfl, rfl⟩
              go_wp2_with (at_builtin; go_loud (refine wpList_append_own _ rfl (.tmp 35) (.tmp 41) _ rfl (w.heap.size + 1) 3 ii _ 1 8 Try.underlying48 hii hi0 hi1 hi2 rfl (by omega) _ out.length (out.map (.int .i64)) rfl (Hown1.out.alloc _) ⟨w1.heap.size, 0, none⟩ 1 1 [.int .i64 (j : Int)] rfl rfl (World.news_of_block (cs := #[.int .i64 (j : Int)]) (t := 3) (fr := (0, 0)) (heap_alloc_new w1 _)) (by simp [Value.oneCell']) (by unfold maxLen; omega) (by omega) (by simp; omega) ?next))
              case next =>
                intro v' w2 hown2 hg2 _
                obtain ⟨A2, c2, rfl⟩ := own_form hown2
                have hz2 : w1.heap.size < w2.heap.size := by have := hg2.size; simp at this; omega
                have hb2 : Below w.heap.size w w2 := (hb1.alloc (by omega) _).grown hg2 (by simp; omega) (fun g hg => by have := Hov.out g hg; omega)
                have hoff : ∀ b, b < w1.heap.size → (∃ cs, w1.heap[b]? = some (.cells cs 31 (0, 0))) → w2.heap[b]? = w1.heap[b]? := fun b hb' hc => by
                  refine (hg2.block b (by simp; omega) (fun e => ?_)).trans (Below.heap_alloc _ _ _ hb')
                  obtain ⟨cs, hc⟩ := hc
                  obtain ⟨cs', hc'⟩ := own_type Hown1.out e.symm
                  exact blk_ne hc hc' (by decide) rfl
                have hsame2 : ∀ b, b < w0.heap.size → RowS w.heap.size w0 b → w2.heap[b]? = w0.heap[b]? := fun b hb' hS => by
                  rcases hS with hS | ⟨cs, hS⟩
                  · exact (hb2.block b hS).trans (hb.block b hS).symm
                  · exact (hoff b (by omega) ⟨cs, ((Hsame.out b hb' (.inr ⟨cs, hS⟩)).trans hS)⟩).trans (Hsame.out b hb' (.inr ⟨cs, hS⟩))
                have hnext2 : OwnSl vE w2 (fun _ => False) w0.heap.size 31 (.slice An nx.length cn) nx := Hnext.out.keep (Nat.le_refl _) (fun b hb' => by
                  refine hoff b (Hnext.out.lt hb').1 ?_
                  obtain ⟨css, _, hr, _⟩ := Hnext.out
                  exact own_type hr hb') (fun _ _ h => h.elim)
                have L2 := (Hloc1.out.alloc (.cells #[.int .i64 (j : Int)] 3)).grown hg2 (fun e he => fun e' => by simp at he; subst he; have := Hov.out _ e'; simp at this; omega)
                have hrow2 : RdSl vE w2 (RowS w.heap.size w0) (.slice (some ⟨b, p, none⟩) row.length cr) row := Hrow.out.keep (by decide) (fun b hb' hS => ⟨hS, hsame2 b hb' hS⟩)
                obtain ⟨b', p', hA', _, hbs', _, y1'⟩ := hrow2.at_v Hx.out
                cases hA'
                rw [Hj.out] at y1'
                obtain ⟨bo', po', D', cd', hA2, _, hbo', z0', _, hfl2⟩ := (Hr.out.below (by decide) hb2).at_o Ho.out
                cases hA2
                obtain ⟨r0', q0', -⟩ := L2.rules
                obtain ⟨csn, hHn, hownn, hszn⟩ := hnext2
                obtain ⟨csf, hHf, hcf⟩ := hfl2.held
                have HL2 := Lib.hid L2
                have Hown2 := Lib.hid hown2
                have HHn := Lib.hid hHn
                have Hownn := Lib.hid hownn
                have HHf := Lib.hid hHf
                have Hcf := Lib.hid hcf
                have Hfl2 := Lib.hid hfl2
                have Hsame2 := Lib.hid hsame2
                clear L2 hown2 hHn hownn hHf hcf hfl2 hsame2 hoff hg2 hrow2 r0 q0 y0 y1 z0 z1
                go_wp2_with fail
                refine wp_region_plan [.still [0, 1, 2, 3, 4, 5, 6, 7, 8, 9, 10], .loud 11 [], .loud 12 []] (by kernel_rfl) (by kernel_rfl) ?_
                refine plan_still ?_
                simp only [pick, List.getElem?_toArray, List.getElem?_cons_succ, List.getElem?_cons_zero]
                repeat still_step
                refine wpStill_nil ?_
                refine plan_loud ?_
                simp only [pick, List.getElem?_toArray, List.getElem?_cons_succ, List.getElem?_cons_zero]
                have hfn := flat_len (size := 2) HHf.out.size
                have hfl := HHf.out.len
                have Hfn := Lib.hid hfn
                have Hflen := Lib.hid hfl
                clear hfn hfl
                refine wpList_append_any _ rfl (.tmp 43) (.tmp 53) _ rfl w0.heap.size 31 iv _ 2 16 Try.underlying27 hiv hv0 hv1 hv2 rfl (by omega) _ nx.length csn.flatten rfl Hownn.out D' o.fields.length cd' csf.flatten rfl (by rw [Hfn.out, Hflen.out]) Hcf.out (fun h => Hfl2.out.none_nil h) HHf.out.one (by unfold maxLen; omega) (by omega) (by show _ ≤ w2.heap.size; omega) ?_
                intro v3 w3 hown3 hg3
                obtain ⟨A3, c3, rfl⟩ := own_form hown3
                have hb3 : Below w.heap.size w w3 := hb2.drew.grown hg3 (by show _ ≤ w2.heap.size; omega) (fun g hg => by have := (own_lt Hownn.out hg).2; omega)
                have hz3 : w2.heap.size ≤ w3.heap.size := hg3.size
                have hnb : ∀ g, (Value.slice An nx.length cn).ownBlock = some g → w0.heap.size ≤ g := fun g hg => (own_lt Hownn.out hg).2
                have L3 := HL2.out.drew.grown hg3 (fun e he => fun e' => by simp at he; subst he; have := hnb _ e'; simp at this; omega)
                have hown4 := own_keep (w' := w3) Hown2.out (Nat.le_refl _) (fun b hb' => hg3.block b (own_lt Hown2.out hb').1 (fun e => by
                  exact own_ne Hown2.out Hownn.out (by decide) hb' e.symm))
                have hsame3 : ∀ b, b < w0.heap.size → RowS w.heap.size w0 b → w3.heap[b]? = w0.heap[b]? := fun b hb' hS =>
                  (hg3.block b (by show b < w2.heap.size; omega) (fun e => by have := hnb b e.symm; omega)).trans (Hsame2.out b hb' hS)
                have hnext3 : OwnSl vE w3 (fun _ => False) w0.heap.size 31 (.slice A3 (nx.length + o.fields.length) c3) (nx ++ o.fields) :=
                  ⟨csn ++ csf, (HHn.out.keep (fun _ _ h => h.elim)).append ⟨HHf.out.len, fun i x cs hx hc => ⟨(HHf.out.each i x cs hx hc).1, (HHf.out.each i x cs hx hc).2⟩⟩, by simpa [vE] using hown3, by simp [vE]; omega⟩
                have HL3 := Lib.hid L3
                have Hown4 := Lib.hid hown4
                have Hsame3 := Lib.hid hsame3
                have Hnext3 := Lib.hid hnext3
                clear L3 hown4 hsame3 hnext3 hown3 hg3 hnb
                go_wp2_with fail
                refine ⟨trivial, ?_⟩
                refine plan_loud ?_
                simp only [pick, List.getElem?_toArray, List.getElem?_cons_succ, List.getElem?_cons_zero]
                go_wp2_with fail
                refine ⟨trivial, ?_⟩
                refine plan_end (NoPanic.normal ?_)
                go_wp2
                go_roundw
                case rel =>
                  have hfr : fresh out x = true := by simp [fresh, Hi.out, Hkk.out.symm]
                  have hl1 : (out ++ [(j : Int)]).length = out.length + 1 := by simp
                  have hl2 : (nx ++ o.fields).length = nx.length + o.fields.length := by simp
                  refine ⟨k + 1, out ++ [(j : Int)], nw ++ [(j : Int)], nx ++ o.fields, c2, A2, A3, c3, by omega, by go_num, by rw [hl1], by rw [hl2], by rw [Hct.out, if_pos hfr, Hj.out], by rw [Hnw.out]; simp, by rw [Hnx.out, flatF_append]; simp [flatF, ← Hj.out, Hfe.out], HL3.out, ?_, ?_, Hsame3.out, hb3, by omega⟩
                  · rw [hl1]; simpa using Hown4.out
                  · rw [hl2]; exact Hnext3.out
                case measure => simp [intOf]; omega
          · have hk2' : (kk == 2) = false := by simpa using hk2
            go_wp2
            go_roundw
            case rel =>
              refine ⟨k + 1, out, nw, nx, co1, Ao1, An, cn, by omega, by go_num, rfl, rfl, ?_, Hnw.out, Hnx.out, Hloc1.out, Hown1.out, Hnext.out, Hsame.out, hb1, hz1⟩
              rw [Hct.out, if_neg (by simp [fresh, ← Hkk.out, hk2])]
            case measure => simp [intOf]; omega
        · have hkk : k = row.length := by omega
          have hxr : row.take k = row := List.take_of_length_le (by omega)
          rw [hxr] at hco
          have Hco := Lib.hid hco
          have Hnw := Lib.hid hnw
          have Hnx := Lib.hid hnx
          have Hloc1 := Lib.hid hloc
          have Hown1 := Lib.hid hown
          have Hnext := Lib.hid hnext
          have Htold1 := Lib.hid htold
          clear hco hnw hnx hloc hown hnext hsame htold hxr
          subst hkk
          go_wp2
          go_roundw
          case rel =>
            refine ⟨out, nx, co1, Ao1, An, cn, rfl, rfl, Htold1.out, ?_, Hloc1.out, Hown1.out, ?_, ?_, hb1, by omega⟩
            · rw [Hnx.out]; exact flatF_refs Hok.out.fields nw
            · refine Hnext.out.rdOwn.keep (by decide) (fun b _ hS => ⟨?_, rfl⟩)
              have hS' := hS.resolve_left id
              obtain ⟨css, _, hr, _⟩ := Hnext.out
              exact .inr (own_type hr hS')
            · intro r h
              refine Hled.out r ?_
              have h1 := Led.row (os := os) (l := row) (rest := []) (out := out0) (nw := nw) (r := r) (by rw [Hco.out, Hnw.out]) (by rw [← Hnw.out, List.nil_append, ← Hnx.out]; exact h)
              simpa using h1
          case measure =>
            have h1 : out.length = out0.length + nw.length := by rw [Hnw.out]; simp
            have h2 : nw = [] → nx.length = 0 := fun h => by rw [Hnx.out, h]; rfl
            have h3 := Htold1.out.len
            simp [lenOf]
            by_cases hw : nw = []
            · have := h2 hw
              subst hw
              simp at h1
              omega
            · have : 0 < nw.length := List.length_pos_iff.2 hw
              omega
end Go.Proofs.Ytfafnjkinolkmaa
