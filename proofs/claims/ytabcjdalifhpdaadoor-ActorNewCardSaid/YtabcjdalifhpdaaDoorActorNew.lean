/- THE STATEMENT 'ActorNew': for every input the call returns true, and each argument reads behind it as it did: proved out of the walks. Condition: the row's own: the table of operators reads as the program's text lays it, which the card ties. -/
import Derived.Test.YtabcjdalifhpdaaDoorActNewR
import Derived.Test.YtabcjdalifhpdaaDoorSameW
import Derived.Test.YtabcjdalifhpdaaDoorFacts
import Derived.Test.YtabcjdalifhpdaaDoorLaid
import Derived.Test.YtabcjdalifhpdaaDoorTie
import Derived.Test.YtabcjdalifhpdaaDoorCards
import Derived.SevenTiedAt
set_option maxRecDepth 100000
namespace Go.Proofs.YtabcjdalifhpdaaDoor.lawActorNew
open Go.ChangeShapes Go.WideShapes Go.ChangeAt Go.RowKit
set_option linter.unusedVariables false

theorem own_up {w : World} {base n : Nat} {e : TypeId} {size : Nat} {v : Value} {k : Nat} {xs : List Value} (h : w.ownsRow base e size v k xs) (hn : ∀ b, v.ownBlock = some b → n ≤ b) : w.ownsRow n e size v k xs := by
  obtain ⟨h1, h2⟩ := h
  refine ⟨h1, ?_⟩
  rcases h2 with h2 | ⟨g, cap, cur, hv, hg, h3⟩
  · exact .inl h2
  · exact .inr ⟨g, cap, cur, hv, hn g (by rw [hv]; rfl), h3⟩
theorem ownV_up {w : World} {n k : Nat} {v : Value} {xs : List V} (h : w.ownsRow 0 61 2 v k (cat (vcs xs))) (hk : k = xs.length) (hs : xs.length * 16 ≤ 140737488355328) (hn : ∀ b, v.ownBlock = some b → n ≤ b) : RdSl vE w (fun b => n ≤ b) v xs := by
  subst hk
  exact (OwnSl.rd (E := vE) (S := fun _ => False) ⟨vcs xs, vcs_held xs, own_up h hn, hs⟩).keep (by decide) (fun _ _ h => ⟨h.elim (fun h => h.elim) id, rfl⟩)
theorem stage_rd {B : Nat} {w0 w : World} {st : Bool} {nk : Nat} {W : Wd} {L : Lay} (h : St B w0 w [stR st nk W L []]) (hH : Heaps w (Fr B [stR st nk W L []]) W L) (hb : ∀ a ∈ W.actors, a.box.length ≤ 6) (hn : W.actors.length ≤ 1000000) :
    RdSl acE w (fun b => B ≤ b) (.slice (some ⟨L.g, 0, none⟩) W.actors.length L.gc) W.actors := by
  have hS : StageOk st nk W L [] w := h.at_ 0 rfl
  have hf : ∀ (k : Key) b, (L.own st nk W [] k).foot b → B ≤ b := fun k b hk => (h.in_ 0 rfl (b := b) ⟨k, hk⟩).1
  have ho := hS.ok .acts
  rw [own_in (by simp)] at ho
  replace ho : w.ownsRow 0 54 8 (.slice (some ⟨L.g, 0, none⟩) W.actors.length L.gc) W.actors.length (cat (acRows L W.actors)) := ho
  have ho' := own_up ho (n := B) (fun b hb => hf .acts b (by rw [own_in (by simp)]; exact hb))
  refine (OwnSl.rd (E := acE) (S := fun b => B ≤ b) ⟨acRows L W.actors, ⟨by simp [acRows], fun i x cs hx hc => ?_⟩, ho', by show W.actors.length * 112 ≤ _; omega⟩).keep (by decide) (fun _ _ h => ⟨h.elim id id, rfl⟩)
  rw [acRows_at hx] at hc
  injection hc with hc
  subst hc
  have h8 := hS.regs x (List.mem_of_getElem? hx)
  have h6 := hb x (List.mem_of_getElem? hx)
  have r1 := hS.ok (.regs i)
  have r2 := hS.ok (.box i)
  rw [own_in (by simp)] at r1 r2
  simp only [Lay.own0, hx] at r1 r2
  refine ⟨rfl, _, _, _, rfl, (hH i x hx).from_ (by decide), ownV_up r1 h8.symm (by omega) (fun b hb' => hf (.regs i) b ?_), ownV_up r2 rfl (by omega) (fun b hb' => hf (.box i) b ?_)⟩
  · rw [own_in (by simp)]; simp only [Lay.own0, hx]; exact hb'
  · rw [own_in (by simp)]; simp only [Lay.own0, hx]; exact hb'
theorem newD_rd {w w' : World} {most : Int} {en : Ending} (h : NewD w most en w') : ∃ A c, en = .returned (.tuple #[.agg #[.slice A 1 c, .slice none 0 0], .int .i64 0]) ∧ RdSl acE w' (fun b => w.heap.size ≤ b) (.slice A 1 c) (newW_ most).actors ∧ Below w.heap.size w w' := by
  obtain ⟨L, _, _, he, hT, hH⟩ := h
  exact ⟨_, _, he, stage_rd hT hH (fun a ha => by simp [newW_] at ha; subst ha; exact Nat.zero_le _) (by show 1 ≤ 1000000; decide), hT.below⟩
set_option maxRecDepth 100000 in
set_option maxHeartbeats 8000000 in
theorem walk (w : World) (ps : List (List Ins)) (A : Option Addr) (c : Nat) (hp : RdSl (slE insE (by decide)) w (fun _ => True) (.slice A ps.length c) ps) (a : Int) (_ha : -9223372036854775808 ≤ a ∧ a ≤ 9223372036854775807) (hu : UsesAt w) :
    Calls Tryd.prog 9 #[.agg #[.slice A ps.length c], .int .i64 a] w fun e w' => e = .returned (.bool true) ∧ Below w.heap.size w w' := by
  have Hr := Lib.hid (show RdSl pgE w (fun _ => True) (.slice A ps.length c) ps from hp)
  have Hu := Lib.hid hu
  clear hp hu _ha
  by_cases h0 : newE_ ps a = 0
  · have Gn := Lib.hid (fun W S (h : UsesAt W) (h2 : RdSl pgE W S (.slice A ps.length c) ps) => (newOk_any S A c ps a W h0 h h2).mono fun _ _ h => newD_rd h)
    have Gr := Lib.hid (fun W S (h2 : RdSl pgE W S (.slice A ps.length c) ps) => (newOkR_any S A c ps a W h0 h2).mono fun _ _ h => newD_rd h)
    clear h0
    have T0 : St w.heap.size w ((w.alloc (.cells #[.slice A ps.length c] 26))) [.blk w.heap.size #[.slice A ps.length c] 26] := ((St.start w (Nat.le_refl _)).new' #[.slice A ps.length c] 26 (w.heap.size) (by simp)).1
    have HT := Lib.hid T0
    have hz : w.heap.size + 1 ≤ (w.alloc (.cells #[.slice A ps.length c] 26)).heap.size := by simp
    clear T0
    replace Hr : Hid (RdSl pgE ((w.alloc (.cells #[.slice A ps.length c] 26))) (Fr 0 [.blk w.heap.size #[.slice A ps.length c] 26]) (.slice A ps.length c) ps) := Lib.hid (RdSl.pool (E := pgE) Hr.out (by show 0 < 1; omega) HT.out)
    go_enter Tryd.func9, Tryd.ntmps9
    go_upto_region 1 with fail
    generalize (w.alloc (.cells #[.slice A ps.length c] 26)) = W1 at *
    obtain ⟨r_p, q_p, -⟩ := HT.out.rules
    have z_p : w.heap.size < W1.heap.size := (HT.out.in_ 0 rfl rfl).2
    go_wp2_with fail
    refine (Gn.out _ _ (Hu.out.below HT.out.below) Hr.out).mono ?_
    rintro en W2 ⟨A1, c1, rfl, hra, hb⟩
    clear r_p q_p z_p
    have Hfresh := Lib.hid (HT.out)
    have hzo : w.heap.size ≤ W1.heap.size := by omega
    obtain ⟨T', K'⟩ := HT.out.call hb
    replace HT := Lib.hid T'
    replace Hr := Lib.hid (Hr.out.move (by show 0 < 1; omega) K')
    clear T' K'
    replace hz : w.heap.size + 1 ≤ W2.heap.size := Nat.le_trans hz hb.size
    clear hb
    have Ha : Hid (RdSl acE W2 (Fr w.heap.size [.blk w.heap.size #[.slice A ps.length c] 26]) (.slice A1 1 c1) ((newW_ a).actors)) := Lib.hid (hra.fresh (by first | decide | (show 0 < 1; omega)) Hfresh.out hzo)
    clear hra
    clear Hfresh hzo
    obtain ⟨r_p, q_p, -⟩ := HT.out.rules
    have z_p : w.heap.size < W2.heap.size := (HT.out.in_ 0 rfl rfl).2
    go_upto_region 2 with fail
    obtain ⟨T', K'⟩ := HT.out.new' #[.slice A1 1 c1, .slice none 0 0] 32 W2.heap.size (by first | (simp; done) | rfl)
    replace HT := Lib.hid T'
    replace Hr := Lib.hid (Hr.out.move (by show 0 < 1; omega) K')
    replace Ha := Lib.hid (Ha.out.move (by decide) K')
    clear T' K'
    replace hz : w.heap.size + 1 ≤ ((W2.alloc (.cells #[.slice A1 1 c1, .slice none 0 0] 32))).heap.size := Nat.le_trans hz (by simp)
    clear r_p q_p z_p
    generalize (W2.alloc (.cells #[.slice A1 1 c1, .slice none 0 0] 32)) = W3 at *
    obtain ⟨r_x, q_x, r_p, q_p, -⟩ := HT.out.rules
    have z_x : W2.heap.size < W3.heap.size := (HT.out.in_ 0 rfl rfl).2
    have z_p : w.heap.size < W3.heap.size := (HT.out.in_ 1 rfl rfl).2
    go_wp2_with fail
    refine (Gr.out _ _ Hr.out).mono ?_
    rintro en W4 ⟨A2, c2, rfl, hrb, hb⟩
    clear r_x q_x r_p q_p z_x z_p
    have Hfresh := Lib.hid (HT.out)
    have hzo : w.heap.size ≤ W3.heap.size := by omega
    obtain ⟨T', K'⟩ := HT.out.call hb
    replace HT := Lib.hid T'
    replace Hr := Lib.hid (Hr.out.move (by show 0 < 1; omega) K')
    replace Ha := Lib.hid (Ha.out.move (by decide) K')
    clear T' K'
    replace hz : w.heap.size + 1 ≤ W4.heap.size := Nat.le_trans hz hb.size
    clear hb
    have Hb : Hid (RdSl acE W4 (Fr w.heap.size [.blk W2.heap.size #[.slice A1 1 c1, .slice none 0 0] 32, .blk w.heap.size #[.slice A ps.length c] 26]) (.slice A2 1 c2) ((newW_ a).actors)) := Lib.hid (hrb.fresh (by first | decide | (show 0 < 1; omega)) Hfresh.out hzo)
    clear hrb
    clear Hfresh hzo
    obtain ⟨r_x, q_x, r_p, q_p, -⟩ := HT.out.rules
    have z_x : W2.heap.size < W4.heap.size := (HT.out.in_ 0 rfl rfl).2
    have z_p : w.heap.size < W4.heap.size := (HT.out.in_ 1 rfl rfl).2
    go_upto_region 3 with fail
    obtain ⟨T', K'⟩ := HT.out.new' #[.slice A2 1 c2, .slice none 0 0] 32 W4.heap.size (by first | (simp; done) | rfl)
    replace HT := Lib.hid T'
    replace Hr := Lib.hid (Hr.out.move (by show 0 < 1; omega) K')
    replace Ha := Lib.hid (Ha.out.move (by decide) K')
    replace Hb := Lib.hid (Hb.out.move (by decide) K')
    clear T' K'
    replace hz : w.heap.size + 1 ≤ ((W4.alloc (.cells #[.slice A2 1 c2, .slice none 0 0] 32))).heap.size := Nat.le_trans hz (by simp)
    clear r_x q_x r_p q_p z_x z_p
    generalize (W4.alloc (.cells #[.slice A2 1 c2, .slice none 0 0] 32)) = W5 at *
    obtain ⟨r_y, q_y, r_x, q_x, -⟩ := HT.out.rules
    have z_y : W4.heap.size < W5.heap.size := (HT.out.in_ 0 rfl rfl).2
    have z_x : W2.heap.size < W5.heap.size := (HT.out.in_ 1 rfl rfl).2
    go_wp2_with fail
    refine (sameWorld_eq _ (fun _ => True) _ (fun _ => True) A1 A2 none none c1 c2 0 0 (newW_ a).actors [] _ Ha.out Hb.out RdSl.nil RdSl.nil).mono ?_
    rintro en W6 ⟨rfl, hb⟩
    clear r_y q_y r_x q_x z_y z_x
    obtain ⟨T', K'⟩ := HT.out.call hb
    replace HT := Lib.hid T'
    replace Hr := Lib.hid (Hr.out.move (by show 0 < 1; omega) K')
    replace Ha := Lib.hid (Ha.out.move (by decide) K')
    replace Hb := Lib.hid (Hb.out.move (by decide) K')
    clear T' K'
    replace hz : w.heap.size + 1 ≤ W6.heap.size := Nat.le_trans hz hb.size
    clear hb
    obtain ⟨r_y, q_y, r_x, q_x, -⟩ := HT.out.rules
    have z_y : W4.heap.size < W6.heap.size := (HT.out.in_ 0 rfl rfl).2
    have z_x : W2.heap.size < W6.heap.size := (HT.out.in_ 1 rfl rfl).2
    go_wp2_with fail
    go_ret
    exact ⟨rfl, HT.out.below⟩
  · obtain ⟨e, he⟩ : ∃ e, newE_ ps a = e := ⟨_, rfl⟩
    rw [he] at h0
    have Gn := Lib.hid (fun W S (h : UsesAt W) (h2 : RdSl pgE W S (.slice A ps.length c) ps) => newBad_any S A c ps a e W he h0 h h2)
    have Gr := Lib.hid (fun W S (h2 : RdSl pgE W S (.slice A ps.length c) ps) => newBadR_any S A c ps a e W he h0 h2)
    have e9 : (e == e) = true := by simp
    clear he
    clear h0
    have T0 : St w.heap.size w ((w.alloc (.cells #[.slice A ps.length c] 26))) [.blk w.heap.size #[.slice A ps.length c] 26] := ((St.start w (Nat.le_refl _)).new' #[.slice A ps.length c] 26 (w.heap.size) (by simp)).1
    have HT := Lib.hid T0
    have hz : w.heap.size + 1 ≤ (w.alloc (.cells #[.slice A ps.length c] 26)).heap.size := by simp
    clear T0
    replace Hr : Hid (RdSl pgE ((w.alloc (.cells #[.slice A ps.length c] 26))) (Fr 0 [.blk w.heap.size #[.slice A ps.length c] 26]) (.slice A ps.length c) ps) := Lib.hid (RdSl.pool (E := pgE) Hr.out (by show 0 < 1; omega) HT.out)
    go_enter Tryd.func9, Tryd.ntmps9
    go_upto_region 1 with fail
    generalize (w.alloc (.cells #[.slice A ps.length c] 26)) = W1 at *
    obtain ⟨r_p, q_p, -⟩ := HT.out.rules
    have z_p : w.heap.size < W1.heap.size := (HT.out.in_ 0 rfl rfl).2
    go_wp2_with fail
    refine (Gn.out _ _ (Hu.out.below HT.out.below) Hr.out).mono ?_
    rintro en W2 ⟨rfl, hb⟩
    clear r_p q_p z_p
    obtain ⟨T', K'⟩ := HT.out.call hb
    replace HT := Lib.hid T'
    replace Hr := Lib.hid (Hr.out.move (by show 0 < 1; omega) K')
    clear T' K'
    replace hz : w.heap.size + 1 ≤ W2.heap.size := Nat.le_trans hz hb.size
    clear hb
    obtain ⟨r_p, q_p, -⟩ := HT.out.rules
    have z_p : w.heap.size < W2.heap.size := (HT.out.in_ 0 rfl rfl).2
    go_upto_region 2 with fail
    obtain ⟨T', K'⟩ := HT.out.new' #[.slice none 0 0, .slice none 0 0] 32 W2.heap.size (by first | (simp; done) | rfl)
    replace HT := Lib.hid T'
    replace Hr := Lib.hid (Hr.out.move (by show 0 < 1; omega) K')
    clear T' K'
    replace hz : w.heap.size + 1 ≤ ((W2.alloc (.cells #[.slice none 0 0, .slice none 0 0] 32))).heap.size := Nat.le_trans hz (by simp)
    clear r_p q_p z_p
    generalize (W2.alloc (.cells #[.slice none 0 0, .slice none 0 0] 32)) = W3 at *
    obtain ⟨r_x, q_x, r_p, q_p, -⟩ := HT.out.rules
    have z_x : W2.heap.size < W3.heap.size := (HT.out.in_ 0 rfl rfl).2
    have z_p : w.heap.size < W3.heap.size := (HT.out.in_ 1 rfl rfl).2
    go_wp2_with fail
    refine (Gr.out _ _ Hr.out).mono ?_
    rintro en W4 ⟨rfl, hb⟩
    clear r_x q_x r_p q_p z_x z_p
    obtain ⟨T', K'⟩ := HT.out.call hb
    replace HT := Lib.hid T'
    replace Hr := Lib.hid (Hr.out.move (by show 0 < 1; omega) K')
    clear T' K'
    replace hz : w.heap.size + 1 ≤ W4.heap.size := Nat.le_trans hz hb.size
    clear hb
    obtain ⟨r_x, q_x, r_p, q_p, -⟩ := HT.out.rules
    have z_x : W2.heap.size < W4.heap.size := (HT.out.in_ 0 rfl rfl).2
    have z_p : w.heap.size < W4.heap.size := (HT.out.in_ 1 rfl rfl).2
    go_upto_region 3 with fail
    obtain ⟨T', K'⟩ := HT.out.new' #[.slice none 0 0, .slice none 0 0] 32 W4.heap.size (by first | (simp; done) | rfl)
    replace HT := Lib.hid T'
    replace Hr := Lib.hid (Hr.out.move (by show 0 < 1; omega) K')
    clear T' K'
    replace hz : w.heap.size + 1 ≤ ((W4.alloc (.cells #[.slice none 0 0, .slice none 0 0] 32))).heap.size := Nat.le_trans hz (by simp)
    clear r_x q_x r_p q_p z_x z_p
    generalize (W4.alloc (.cells #[.slice none 0 0, .slice none 0 0] 32)) = W5 at *
    obtain ⟨r_y, q_y, r_x, q_x, -⟩ := HT.out.rules
    have z_y : W4.heap.size < W5.heap.size := (HT.out.in_ 0 rfl rfl).2
    have z_x : W2.heap.size < W5.heap.size := (HT.out.in_ 1 rfl rfl).2
    go_wp2_with fail
    refine (sameWorld_eq (fun _ => True) (fun _ => True) (fun _ => True) (fun _ => True) none none none none 0 0 0 0 [] [] _ RdSl.nil RdSl.nil RdSl.nil RdSl.nil).mono ?_
    rintro en W6 ⟨rfl, hb⟩
    clear r_y q_y r_x q_x z_y z_x
    obtain ⟨T', K'⟩ := HT.out.call hb
    replace HT := Lib.hid T'
    replace Hr := Lib.hid (Hr.out.move (by show 0 < 1; omega) K')
    clear T' K'
    replace hz : w.heap.size + 1 ≤ W6.heap.size := Nat.le_trans hz hb.size
    clear hb
    obtain ⟨r_y, q_y, r_x, q_x, -⟩ := HT.out.rules
    have z_y : W4.heap.size < W6.heap.size := (HT.out.in_ 0 rfl rfl).2
    have z_x : W2.heap.size < W6.heap.size := (HT.out.in_ 1 rfl rfl).2
    go_wp2_with fail
    go_ret
    exact ⟨rfl, HT.out.below⟩

theorem lifted (os : Os) (started : os.Started) (H : Type) (enc : TypeId × Value → H) :
    ReturnsInHanded {} Tryd.checked os 9 .any (fun w args => (Rows.actorNewSpec.pre enc Tryd.prog Tryd.f9 [] false w args ∧ laidMetH Tryd.prog Rows.actorNewRow.laid w) ∧ sizedMet enc Tryd.prog Tryd.f9 (OpenSpec.ofChange Rows.actorNewSpec) false w args) (Rows.actorNewSpec.post enc Tryd.prog Tryd.f9 false true false false) := by
  refine returnsInHanded_of_change_and (C := Tryd.checked) (X := fun w _ => laidMetH Tryd.prog Rows.actorNewRow.laid w) (fun _ _ _ hh h => h.of_heap hh) own started (by kernel_rfl) Tryd.func9
    (ChangeSpec.witness_shaped (enc := enc) (C := Tryd.checked) (os := os) (X := fun w _ => laidMetH Tryd.prog Rows.actorNewRow.laid w) false (World.doorLaid Tryd.prog 400 os) #[.agg #[.slice none 0 0], .int .i64 0] 8 rfl (World.shaped_of_RefB (by kernel_rfl) (by kernel_rfl)) (by kernel_rfl) (by kernel_rfl) (by kernel_rfl) (door_met os _)) ?_
  intro W base args ds gs before hval0 hW _ hsz0 hL _
  have hval : ∀ (j : Nat) t v, Tryd.f9.params[j]? = some t → args[j]? = some v → Value.okWide Tryd.prog W .any base t v := hval0
  have hsz : (DataW.weightsEach Tryd.prog (Tryd.f9.params.toList ++ Rows.actorNewSpec.plain.varTypes Tryd.prog) (ds ++ gs)).all (· ≤ reachBytes) = true := hsz0
  have hW' := hW
  obtain ⟨p, q, hA0, hV, rfl, hfz, hnd⟩ := hW
  have hA : DataW.TrodAll enc Tryd.prog W 0 (fun _ => true) true Tryd.f9.params.toList args.toList ds p := hA0
  rw [Tryd.params9] at hA hval hsz
  obtain ⟨v0, vs0, d0, ds0, p0, q0, hargs, rfl, rfl, h0, r0⟩ := trodAll_cons hA
  obtain ⟨v1, vs1, d1, ds1, p1, q1, rfl, rfl, rfl, h1, r1⟩ := trodAll_cons r0
  obtain ⟨rfl, rfl, rfl⟩ := trodAll_nil r1
  obtain rfl : args = #[v0, v1] := by cases args; simp_all
  obtain ⟨rfl, rfl⟩ := trodVars_none hV
  obtain ⟨x0, A0, c0, rfl, y0⟩ := arg_pg h0 (hval 0 26 v0 rfl rfl) (sized_at hsz (j := 0) rfl rfl)
  obtain ⟨a1, rfl, -, -, w1⟩ := open_int Tryd.underlying3 (hval 1 3 v1 rfl rfl) h1
  clear hA0 hval0 hsz0
  refine (walk W x0 A0 c0 y0 a1 (wf_i64_range w1) (uses_of hL)).mono fun e W' ⟨he, hb⟩ => ?_
  subst he
  exact ⟨_, rfl, law_post (tb := 4) laidOut Tryd.underlying4 (by kernel_rfl) (by rw [Tryd.params9]; exact all_types (by kernel_rfl)) rfl hW' rfl hb⟩

theorem closed : joinedFacts Tryd.prog 9 Tryd.f9 Rows.actorNewSpec Rows.actorNewRow = true :=
  facts_of (by kernel_rfl) laidOut fact_rowed (by kernel_rfl) (by kernel_rfl) (by kernel_rfl) fact_stops (by kernel_rfl) fact_knobs (by kernel_rfl) (by kernel_rfl) (by kernel_rfl) (by kernel_rfl) (by kernel_rfl) (by kernel_rfl) (by kernel_rfl) (by kernel_rfl) (by kernel_rfl) (by kernel_rfl) (by kernel_rfl) (by kernel_rfl) (by kernel_rfl) (by kernel_rfl) (by kernel_rfl) fact_heard fact_may (by rw [fact_lifts]; rfl) fact_make ⟨rfl, rfl⟩ (by kernel_rfl) (by kernel_rfl) (by kernel_rfl)
theorem over : Rows.actorNewRow.holds Tryd.pinned (OpenSpec.ofChange Rows.actorNewSpec) :=
  OpenClaim.holds_of_wide 9 Tryd.f9 rfl rfl rfl rfl rfl rfl rfl ⟨rfl, rfl, rfl, rfl, rfl⟩ rfl rfl rfl rfl rfl (by kernel_rfl) Tryd.func9 closed
    (of_decide_eq_true (by kernel_rfl)) (by unfold Func.isWrapper; first | (rw [if_pos (by decide +kernel)]; kernel_rfl) | (rw [if_neg (by decide +kernel)]; exact ⟨rfl, rfl⟩))
    (fun os started H enc _ => lifted os started H enc)
/-- THE STATEMENT: the tied card. -/
theorem proved : Rows.ActorNewCardSaid := by
  unfold Rows.ActorNewCardSaid Rows.actorNewCard
  exact Claim7.holds_tied_plain_at .later [] [.data] true _ _ over (fun _ h => by cases h) (by kernel_rfl) (fun _ h => by cases h) actorNew_row_tie rfl ⟨rfl, rfl⟩ (by kernel_rfl) rfl
    (fun f fn hf hfn => by
      obtain rfl : f = 9 := Option.some.inj ((show Tryd.prog.funcNamed "treadwheel/treadwheellaw.ActorNew" = some 9 by kernel_rfl).symm.trans hf) |>.symm
      obtain rfl : fn = Tryd.f9 := (Option.some.inj (Tryd.func9.symm.trans hfn)).symm
      exact ⟨by kernel_rfl, fun j t ht => by
        rw [Tryd.params9] at ht
        have hm : t ∈ ([26, 3] : List TypeId) := by simpa using Array.mem_of_getElem? ht
        have hall : (([26, 3] : List TypeId).all fun u => !Tryd.prog.wantsStandIn u) = true := by kernel_rfl
        exact (show Tryd.prog.wantsStandIn t = false by simpa using List.all_eq_true.1 hall t hm)⟩)
    (by kernel_rfl)
#print axioms proved
end Go.Proofs.YtabcjdalifhpdaaDoor.lawActorNew
