/- The walk of actor.Run, where nothing is run. Condition: the table of operators is there. -/
import Derived.Test.YtabcjdalifhpdaaDoorActK
import Derived.Test.YtabcjdalifhpdaaDoorActNew
import Derived.Test.YtabcjdalifhpdaaDoorCopyP
import Derived.Test.YtabcjdalifhpdaaDoorKeepP
import Derived.Test.YtabcjdalifhpdaaDoorStD
namespace Go.Proofs.YtabcjdalifhpdaaDoor
open Go.RowKit
section
variable {B : Nat} {w0 w w' : World} {R : List Res} {st : Bool} {nk : Nat} {W : Wd} {L : Lay} {X : List Key}
theorem St.withNew {r : Res} (h : St B w0 w R) (hT : St w.heap.size w w' [r]) : St B w0 w' (r :: R) ∧ Keeps w R w' (r :: R) := h.made hT.below r (hT.at_ 0 rfl) (fun _ hf => hT.in_ 0 rfl hf)
theorem Heaps.withNew {r : Res} (h : St B w0 w R) (hH : Heaps w' (Fr w.heap.size [r]) W L) : Heaps w' (Fr 0 (r :: R)) W L := hH.keep (fun b _ hf => ⟨⟨Nat.zero_le _, fun x hx hxf => by
 rcases List.mem_cons.1 hx with rfl | hx
 ·exact hf.2 x (by simp) hxf
 ·have := (h.foot x hx b hxf).2;have := hf.1;omega⟩, rfl⟩)
theorem St.reform (h : St B w0 w R) (i : Nat) (hi : R[i]? = some (stR st nk W L X)) {st' : Bool} {nk' : Nat} {L' : Lay} {X' : List Key} (hsame : ∀ k, L'.own st' nk' W X' k = L.own st nk W X k) :
  St B w0 w (R.set i (stR st' nk' W L' X')) ∧ Keeps w R w (R.set i (stR st' nk' W L' X')) := by
 have hS : StageOk st nk W L X w := h.at_ i hi;refine h.turn (w' := w) i hi _ (Nat.le_refl _) rfl rfl rfl (fun _ _ _ => rfl) ⟨fun k => by rw [hsame]; exact hS.ok k, fun k k' hne b h1 h2 => ?_, hS.regs⟩ (fun b ⟨k, hb⟩ => .inl ⟨k, by rw [← hsame]; exact hb⟩);rw [hsame] at h1 h2;exact hS.apart k k' hne b h1 h2
theorem St.stageHead {nk0 : Nat} {cs : Array Value} (b : Nat) (kA : Option Addr) (kc : Nat) (hcs : cs = headCells nk { L with head := b, kA := kA, kc := kc } W) (h : St B w0 w (.blk b cs 109 :: stR false nk0 W L [] :: R)) :
  St B w0 w (stR true nk W { L with head := b, kA := kA, kc := kc } [] :: R) ∧ Keeps w (.blk b cs 109 :: stR false nk0 W L [] :: R) w (stR true nk W { L with head := b, kA := kA, kc := kc } [] :: R) := by
 subst hcs;obtain ⟨h1, k1⟩ := h.reform 1 rfl (st' := true) (nk' := nk) (L' := { L with head := b, kA := kA, kc := kc }) (X' := [.head]) (fun k => by
  cases k with
  | head => rw [own_out (by simp), own_in (by simp)]; rfl
  | acts => rw [own_in (by simp), own_in (by simp)]; rfl
  | prints => rw [own_in (by simp), own_in (by simp)]; rfl
  | regs i => rw [own_in (by simp), own_in (by simp)]; rfl
  | box i => rw [own_in (by simp), own_in (by simp)]; rfl)
 obtain ⟨h2, k2⟩ := h1.plug 0 rfl rfl (by simp);exact ⟨h2, k1.trans (Nat.le_refl _) k2⟩
theorem own_upw {base n : Nat} {e : TypeId} {size : Nat} {v : Value} {k : Nat} {xs : List Value} (h : w.ownsRow base e size v k xs) (hn : ∀ b, v.ownBlock = some b → n ≤ b) : w.ownsRow n e size v k xs := by
 obtain ⟨h1, h2⟩ := h;refine ⟨h1, ?_⟩;rcases h2 with h2 | ⟨g, cap, cur, hv, hg, h3⟩
 ·exact .inl h2
 ·exact .inr ⟨g, cap, cur, hv, hn g (by rw [hv]; rfl), h3⟩
theorem ownV_upw {n k : Nat} {v : Value} {xs : List V} (h : w.ownsRow 0 61 2 v k (cat (vcs xs))) (hk : k = xs.length) (hs : xs.length * 16 ≤ 140737488355328) (hn : ∀ b, v.ownBlock = some b → n ≤ b) : RdSl vE w (fun b => n ≤ b) v xs := by
 subst hk;exact (OwnSl.rd (E := vE) (S := fun _ => False) ⟨vcs xs, vcs_held xs, own_upw h hn, hs⟩).keep (by decide) (fun _ _ h => ⟨h.elim (fun h => h.elim) id, rfl⟩)
def oldR (w : World) : Res := .any (fun b => b < w.heap.size) (fun w' => ∀ b, b < w.heap.size → w'.heap[b]? = w.heap[b]?) (fun _ _ h ho b hb => (h b hb).trans (ho b hb))
theorem oldStart (w : World) : St 0 w w [oldR w] := ⟨⟨rfl, rfl, rfl, Nat.le_refl _, fun _ _ => rfl⟩, fun r hr => by simp at hr; subst hr; exact fun _ _ => rfl, fun r hr b hb => by simp at hr; subst hr; exact ⟨Nat.zero_le _, hb⟩, List.pairwise_singleton _ _, Nat.zero_le _⟩
theorem St.oldBelow (h : St 0 w0 w R) (i : Nat) (hi : R[i]? = some (oldR w0)) : Below w0.heap.size w0 w := ⟨h.below.os, h.below.tape, h.below.output, h.below.size, h.at_ i hi⟩
theorem RdSl.old {α : Type} {E : El α} {S : Nat → Prop} {v : Value} {xs : List α} (hr : RdSl E w0 S v xs) (hE : 0 < E.size) (ho : (oldR w0).ok w) : RdSl E w (fun _ => True) v xs := hr.keep hE (fun b hb _ => ⟨trivial, ho b hb⟩)
theorem stage_acts (h : St 0 w0 w [stR st nk W L [], oldR w0]) (hH : Heaps w (Fr 0 [stR st nk W L [], oldR w0]) W L) (hb : ∀ a ∈ W.actors, a.box.length ≤ 6) (hn : W.actors.length ≤ 1000000) :
  RdSl acE w (fun b => w0.heap.size ≤ b) (.slice (some ⟨L.g, 0, none⟩) W.actors.length L.gc) W.actors := by
 have hS : StageOk st nk W L [] w := h.at_ 0 rfl;have hf : ∀ (k : Key) b, (L.own st nk W [] k).foot b → w0.heap.size ≤ b := fun k b hk => Nat.le_of_not_lt (fun hlt => (List.pairwise_cons.1 h.apart).1 (oldR w0) (by simp) b ⟨k, hk⟩ hlt);have ho := hS.ok .acts;rw [own_in (by simp)] at ho;replace ho : w.ownsRow 0 54 8 (.slice (some ⟨L.g, 0, none⟩) W.actors.length L.gc) W.actors.length (cat (acRows L W.actors)) := ho;have ho' := own_upw ho (n := w0.heap.size) (fun b hb => hf .acts b (by rw [own_in (by simp)]; exact hb));refine (OwnSl.rd (E := acE) (S := fun b => w0.heap.size ≤ b) ⟨acRows L W.actors, ⟨by simp [acRows], fun i x cs hx hc => ?_⟩, ho', by show W.actors.length * 112 ≤ _; omega⟩).keep (by decide) (fun _ _ h => ⟨h.elim id id, rfl⟩);rw [acRows_at hx] at hc;injection hc with hc
 subst hc;have h8 := hS.regs x (List.mem_of_getElem? hx);have h6 := hb x (List.mem_of_getElem? hx);have r1 := hS.ok (.regs i);have r2 := hS.ok (.box i);rw [own_in (by simp)] at r1 r2;simp only [Lay.own0, hx] at r1 r2;refine ⟨rfl, _, _, _, rfl, (hH i x hx).keep (by decide) (fun b _ h => ⟨Nat.le_of_not_lt (h.2 (oldR w0) (by simp)), rfl⟩), ownV_upw r1 h8.symm (by omega) (fun b hb' => hf (.regs i) b ?_), ownV_upw r2 rfl (by omega) (fun b hb' => hf (.box i) b ?_)⟩
 ·rw [own_in (by simp)]; simp only [Lay.own0, hx]; exact hb'
 ·rw [own_in (by simp)]; simp only [Lay.own0, hx]; exact hb'
theorem tcs_held {S : Nat → Prop} (l : List Td) : Held tdE w S (tcs l) l := ⟨by simp [tcs], fun i x cs hx hc => by
 simp [tcs, hx] at hc
 subst hc;exact ⟨rfl, rfl⟩⟩
theorem stage_tds (h : St 0 w0 w [stR st nk W L [], oldR w0]) (hn : W.prints.length ≤ 1000000) : RdSl tdE w (fun b => w0.heap.size ≤ b) (.slice L.pA W.prints.length L.pc) W.prints := by
 have hS : StageOk st nk W L [] w := h.at_ 0 rfl;have ho := hS.ok .prints;rw [own_in (by simp)] at ho;replace ho : w.ownsRow 0 85 2 (.slice L.pA W.prints.length L.pc) W.prints.length (cat (tcs W.prints)) := ho;have ho' := own_upw ho (n := w0.heap.size) (fun b hb => Nat.le_of_not_lt (fun hlt => (List.pairwise_cons.1 h.apart).1 (oldR w0) (by simp) b ⟨.prints, by rw [own_in (by simp)]; exact hb⟩ hlt));exact (OwnSl.rd (E := tdE) (S := fun _ => False) ⟨tcs W.prints, tcs_held _, ho', by show W.prints.length * 16 ≤ _; omega⟩).keep (by decide) (fun _ _ h => ⟨h.elim (fun h => h.elim) id, rfl⟩)
end
section
variable {ps : List (List Ins)} {most : Int} {l : List Deed}
theorem new_in (h : newE_ ps most = 0) : progF ps = 0 ∧ 2 ≤ most ∧ most ≤ 60 := by
 unfold newE_ at h;split at h
 ·rename_i h0; exact absurd h h0
 ·rename_i h0
  simp only [Decidable.not_not] at h0;split at h
  ·cases h
  ·exact ⟨(verP_zero h0).1, by omega, by omega⟩
theorem run_zero (hN : newE_ ps most = 0) (hl : l.length ≤ 3000) (hg : ∀ (j : Nat) x, l[j]? = some x → deedF x = 0) : runE ps most l = 0 := by
 unfold runE;rw [if_neg (by rw [hN]; decide), if_neg (by omega)];have : l.find? (fun d => deedF d != 0) = none := List.find?_eq_none.2 fun x hx => by
  obtain ⟨j, hj⟩ := List.getElem?_of_mem hx;simp [hg j x hj]
 rw [this]
theorem run_bad (hN : newE_ ps most = 0) (hl : l.length ≤ 3000) {k : Nat} {x : Deed} (hx : l[k]? = some x) (hg : ∀ (j : Nat) y, j < k → l[j]? = some y → deedF y = 0) {E : Int} (hE : deedF x = E) (h0 : E ≠ 0) : runE ps most l = E := by
 unfold runE;rw [if_neg (by rw [hN]; decide), if_neg (by omega)];have hkl : k < l.length := (List.getElem?_eq_some_iff.1 hx).1;have : l.find? (fun d => deedF d != 0) = some x := by
  have hs : l = l.take k ++ x :: l.drop (k + 1) := by
   have e : l[k] = x := (List.getElem?_eq_some_iff.1 hx).2;rw [← e, ← List.drop_eq_getElem_cons hkl, List.take_append_drop]
  rw [hs, List.find?_append];have h1 : (l.take k).find? (fun d => deedF d != 0) = none := List.find?_eq_none.2 fun y hy => by
   obtain ⟨j, hj⟩ := List.getElem?_of_mem hy;rw [List.getElem?_take] at hj;split at hj
   ·rename_i hjk; simp [hg j y hjk hj]
   ·cases hj
  rw [h1];simp [hE, h0]
 rw [this];exact hE
theorem run_more {k : Nat} {x : Deed} (hg : ∀ (j : Nat) y, j < k → l[j]? = some y → deedF y = 0) (hx : l[k]? = some x) (hd : deedF x = 0) : ∀ (j : Nat) y, j < k + 1 → l[j]? = some y → deedF y = 0 := fun j y hj hy => by
 by_cases e : j = k
 ·subst e; rw [hx] at hy; injection hy with hy; rw [← hy]; exact hd
 ·exact hg j y (by omega) hy
end
def RunD (w : World) (V : Wd) (e : Int) (en : Ending) (w' : World) : Prop :=
 ∃ A c B d, en = .returned (.tuple #[.agg #[.slice A V.actors.length c, .slice B V.prints.length d], .int .i64 e]) ∧ RdSl acE w' (fun b => w.heap.size ≤ b) (.slice A V.actors.length c) V.actors ∧ RdSl tdE w' (fun b => w.heap.size ≤ b) (.slice B V.prints.length d) V.prints ∧ Below w.heap.size w w'
set_option maxRecDepth 100000 in
set_option maxHeartbeats 8000000 in
theorem runA_any (S T : Nat → Prop) (A B : Option Addr) (c d : Nat) (ps : List (List Ins)) (most : Int) (l : List Deed) (w : World) (hu : UsesAt w) (hr : RdSl pgE w S (.slice A ps.length c) ps) (hq : RdSl deedE w T (.slice B l.length d) l) (hN : newE_ ps most ≠ 0) :
  Calls Tryd.prog 22 #[.agg #[.slice A ps.length c], .int .i64 most, .slice B l.length d] w (RunD w (runW ps most l) (runE ps most l)) := by
 unfold RunD;have hE : runE ps most l = newE_ ps most := if_pos hN;have hW : runW ps most l = ⟨[], []⟩ := if_pos (by rw [hE]; exact hN);rw [hE, hW];obtain ⟨E, hEE⟩ : ∃ E, newE_ ps most = E := ⟨_, rfl⟩;rw [hEE] at hN ⊢;have HN := Lib.hid hN;have HE := Lib.hid hEE;have e1 : (E != 0) = true := (by simpa using hN);clear hE hW hEE hN;obtain ⟨-, u1, -, -⟩ := hq.lims;have Hu := Lib.hid hu;have Hr := Lib.hid hr;have Hq := Lib.hid hq;clear hu hr hq;have T0 : St 0 w (((w.alloc (.cells #[.slice A ps.length c] 26)).alloc (.cells #[.slice none 0 0, .slice none 0 0] 32))) [.blk (w.heap.size + 1) #[.slice none 0 0, .slice none 0 0] 32, .blk w.heap.size #[.slice A ps.length c] 26, oldR w] := (((((oldStart w)).new' #[.slice A ps.length c] 26 (w.heap.size) (by simp)).1).new' #[.slice none 0 0, .slice none 0 0] 32 (w.heap.size + 1) (by simp)).1;have HT := Lib.hid T0;have hz : w.heap.size + 1 + 1 ≤ ((w.alloc (.cells #[.slice A ps.length c] 26)).alloc (.cells #[.slice none 0 0, .slice none 0 0] 32)).heap.size := (by simp);clear T0;go_enter Tryd.func22, Tryd.ntmps22
 go_upto_region 1 with fail;generalize ((w.alloc (.cells #[.slice A ps.length c] 26)).alloc (.cells #[.slice none 0 0, .slice none 0 0] 32)) = W1 at *;have h_ := HT.rz 2;go_wp2_with fail;refine (newBad_any _ A c ps most E _ HE.out HN.out (Hu.out.below (HT.out.oldBelow 2 rfl)) (RdSl.old (E := pgE) Hr.out (by show 0 < 1; omega) (HT.out.at_ 2 rfl))).mono ?_;rintro en W2 ⟨rfl, hb⟩;clear h_;replace HT := sp0 (HT.out.call hb);replace hz := Nat.le_trans hz hb.size;clear hb;have h_ := HT.rz 2;go_upto_region 2 with fail;replace HT := sp0 (HT.out.new' #[.slice none 0 0, .slice none 0 0] 32 W2.heap.size (by first | (simp; done) | rfl));replace hz := HT.zz hz;clear h_;generalize (W2.alloc (.cells #[.slice none 0 0, .slice none 0 0] 32)) = W3 at *;have h_ := HT.rz 3;go_wp2_with fail;clear h_;replace HT := sp0 (ns1 (HT.out.put2 1 (.slice none 0 0) (.slice none 0 0) rfl rfl));replace hz := HT.zz hz;generalize (W3.setCell ⟨w.heap.size + 1, 0, none⟩ (.slice none 0 0)).setCell ⟨w.heap.size + 1, 1, none⟩ (.slice none 0 0) = W4 at *;have h_ := HT.rz 3;try simp only [Exit.inBlock, Exit.then]
 refine bodyPost_ret (v := .tuple #[.agg #[.slice none 0 0, .slice none 0 0], .int .i64 E]) (by simp [results, Tryd.results22, go_sem, h_.2.2.2.1]) rfl ?_;exact ⟨none, 0, none, 0, rfl, RdSl.nil, RdSl.nil, HT.out.oldBelow 3 rfl⟩
set_option maxRecDepth 100000 in
set_option maxHeartbeats 8000000 in
theorem runB_any (S T : Nat → Prop) (A B : Option Addr) (c d : Nat) (ps : List (List Ins)) (most : Int) (l : List Deed) (w : World) (hu : UsesAt w) (hr : RdSl pgE w S (.slice A ps.length c) ps) (hq : RdSl deedE w T (.slice B l.length d) l) (hN : newE_ ps most = 0) (hl : 3000 < l.length) :
  Calls Tryd.prog 22 #[.agg #[.slice A ps.length c], .int .i64 most, .slice B l.length d] w (RunD w (runW ps most l) (runE ps most l)) := by
 unfold RunD;have hE : runE ps most l = 1 := (by unfold runE; rw [if_neg (by omega), if_pos hl]);have hW : runW ps most l = ⟨[], []⟩ := if_pos (by rw [hE]; decide);rw [hE, hW];have HN := Lib.hid hN;have l1 : (l.length : Int) > 3000 := (by omega);clear hE hW hl hN;obtain ⟨-, u1, -, -⟩ := hq.lims;have Hu := Lib.hid hu;have Hr := Lib.hid hr;have Hq := Lib.hid hq;clear hu hr hq;have T0 : St 0 w (((w.alloc (.cells #[.slice A ps.length c] 26)).alloc (.cells #[.slice none 0 0, .slice none 0 0] 32))) [.blk (w.heap.size + 1) #[.slice none 0 0, .slice none 0 0] 32, .blk w.heap.size #[.slice A ps.length c] 26, oldR w] := (((((oldStart w)).new' #[.slice A ps.length c] 26 (w.heap.size) (by simp)).1).new' #[.slice none 0 0, .slice none 0 0] 32 (w.heap.size + 1) (by simp)).1;have HT := Lib.hid T0;have hz : w.heap.size + 1 + 1 ≤ ((w.alloc (.cells #[.slice A ps.length c] 26)).alloc (.cells #[.slice none 0 0, .slice none 0 0] 32)).heap.size := (by simp);clear T0;go_enter Tryd.func22, Tryd.ntmps22
 go_upto_region 1 with fail;generalize ((w.alloc (.cells #[.slice A ps.length c] 26)).alloc (.cells #[.slice none 0 0, .slice none 0 0] 32)) = W1 at *;have h_ := HT.rz 2;go_wp2_with fail;refine (newOk_any _ A c ps most _ HN.out (Hu.out.below (HT.out.oldBelow 2 rfl)) (RdSl.old (E := pgE) Hr.out (by show 0 < 1; omega) (HT.out.at_ 2 rfl))).mono ?_;rintro en W2 ⟨L, hpA, hpc, rfl, hT, hH⟩;have Hfresh := Lib.hid (HT.out);clear h_;replace HT := sp0 (HT.out.withNew hT);replace hz : w.heap.size + 1 + 1 ≤ W2.heap.size := Nat.le_trans hz hT.below.size;have HH : Hid (Heaps W2 (Fr 0 [stR false 0 (newW_ most) L [], .blk (w.heap.size + 1) #[.slice none 0 0, .slice none 0 0] 32, .blk w.heap.size #[.slice A ps.length c] 26, oldR w]) (newW_ most) L) := Lib.hid (Heaps.withNew Hfresh.out hH);clear Hfresh hT hH;have h_ := HT.rz 2;go_upto_region 2 with fail;replace ⟨HT, HH⟩ := sp1 (HT.out.new' #[.slice (some ⟨L.g, 0, none⟩) 1 L.gc, .slice none 0 0] 32 W2.heap.size (by first | (simp; done) | rfl)) (mv_ HH.out.move);replace hz := HT.zz hz;clear h_;generalize (W2.alloc (.cells #[.slice (some ⟨L.g, 0, none⟩) 1 L.gc, .slice none 0 0] 32)) = W3 at *;have h_ := HT.rz 3;clear hpA hpc;go_wp2_with fail;clear h_;replace ⟨HT, HH⟩ := sp1 (ns2 (HT.out.put2 2 (.slice none 0 0) (.slice none 0 0) rfl rfl)) (mv_ HH.out.move);replace hz := HT.zz hz;generalize (W3.setCell ⟨w.heap.size + 1, 0, none⟩ (.slice none 0 0)).setCell ⟨w.heap.size + 1, 1, none⟩ (.slice none 0 0) = W4 at *;have h_ := HT.rz 3;try simp only [Exit.inBlock, Exit.then]
 refine bodyPost_ret (v := .tuple #[.agg #[.slice none 0 0, .slice none 0 0], .int .i64 1]) (by simp [results, Tryd.results22, go_sem, h_.2.2.2.1]) rfl ?_;exact ⟨none, 0, none, 0, rfl, RdSl.nil, RdSl.nil, HT.out.oldBelow 4 rfl⟩
set_option maxRecDepth 100000 in
set_option maxHeartbeats 8000000 in
theorem runF_any (S T : Nat → Prop) (A B : Option Addr) (c d : Nat) (ps : List (List Ins)) (most : Int) (l : List Deed) (w : World) (hu : UsesAt w) (hr : RdSl pgE w S (.slice A ps.length c) ps) (hq : RdSl deedE w T (.slice B l.length d) l) (hN : newE_ ps most = 0) (hl : ¬ 3000 < l.length) (x : Deed) (hx : l[0]? = some x) (E : Int) (hd : deedF x = E) (h0 : E ≠ 0) :
  Calls Tryd.prog 22 #[.agg #[.slice A ps.length c], .int .i64 most, .slice B l.length d] w (RunD w (runW ps most l) (runE ps most l)) := by
 unfold RunD;have HN := Lib.hid hN;have l1 : ¬ (l.length : Int) > 3000 := (by omega);have hE : runE ps most l = E := run_bad hN (by omega) hx (fun j y hj _ => absurd hj (Nat.not_lt_zero _)) hd h0;have hW : runW ps most l = ⟨[], []⟩ := if_pos (by rw [hE]; exact h0);rw [hE, hW];have hlt : 0 < l.length := (List.getElem?_eq_some_iff.1 hx).1;have HX := Lib.hid hx;have HD := Lib.hid hd;have e1 : (E != 0) = true := (by simpa using h0);clear hN hE hW hx hd h0;obtain ⟨-, u1, -, -⟩ := hq.lims;have Hu := Lib.hid hu;have Hr := Lib.hid hr;have Hq := Lib.hid hq;clear hu hr hq;have T0 : St 0 w (((w.alloc (.cells #[.slice A ps.length c] 26)).alloc (.cells #[.slice none 0 0, .slice none 0 0] 32))) [.blk (w.heap.size + 1) #[.slice none 0 0, .slice none 0 0] 32, .blk w.heap.size #[.slice A ps.length c] 26, oldR w] := (((((oldStart w)).new' #[.slice A ps.length c] 26 (w.heap.size) (by simp)).1).new' #[.slice none 0 0, .slice none 0 0] 32 (w.heap.size + 1) (by simp)).1;have HT := Lib.hid T0;have hz : w.heap.size + 1 + 1 ≤ ((w.alloc (.cells #[.slice A ps.length c] 26)).alloc (.cells #[.slice none 0 0, .slice none 0 0] 32)).heap.size := (by simp);clear T0;go_enter Tryd.func22, Tryd.ntmps22
 go_upto_region 1 with fail;generalize ((w.alloc (.cells #[.slice A ps.length c] 26)).alloc (.cells #[.slice none 0 0, .slice none 0 0] 32)) = W1 at *;have h_ := HT.rz 2;go_wp2_with fail;refine (newOk_any _ A c ps most _ HN.out (Hu.out.below (HT.out.oldBelow 2 rfl)) (RdSl.old (E := pgE) Hr.out (by show 0 < 1; omega) (HT.out.at_ 2 rfl))).mono ?_;rintro en W2 ⟨L, hpA, hpc, rfl, hT, hH⟩;have Hfresh := Lib.hid (HT.out);clear h_;replace HT := sp0 (HT.out.withNew hT);replace hz : w.heap.size + 1 + 1 ≤ W2.heap.size := Nat.le_trans hz hT.below.size;have HH : Hid (Heaps W2 (Fr 0 [stR false 0 (newW_ most) L [], .blk (w.heap.size + 1) #[.slice none 0 0, .slice none 0 0] 32, .blk w.heap.size #[.slice A ps.length c] 26, oldR w]) (newW_ most) L) := Lib.hid (Heaps.withNew Hfresh.out hH);clear Hfresh hT hH;have h_ := HT.rz 2;go_upto_region 2 with fail;replace ⟨HT, HH⟩ := sp1 (HT.out.new' #[.slice (some ⟨L.g, 0, none⟩) 1 L.gc, .slice none 0 0] 32 W2.heap.size (by first | (simp; done) | rfl)) (mv_ HH.out.move);replace hz := HT.zz hz;clear h_;generalize (W2.alloc (.cells #[.slice (some ⟨L.g, 0, none⟩) 1 L.gc, .slice none 0 0] 32)) = W3 at *;have h_ := HT.rz 3;go_upto_region 6 with fail;refine wp_region_plan [.still [0, 2], .loud 1 [2], .still [3], .loud 4 [], .still [5]] (by kernel_rfl) (by kernel_rfl) ?_;refine ps_ ?_;repeat still_step
 refine wpStill_nil ?_;refine pl_ ?_;go_wp2_with fail;replace ⟨HT, HH⟩ := sp1 HT.out.drew' (mv_ HH.out.move);replace hz := HT.zz hz;refine (copyP_any _ A c ps _ (RdSl.old (E := pgE) Hr.out (by show 0 < 1; omega) (HT.out.at_ 4 rfl))).mono ?_;rintro en W4 ⟨v9, rfl, ⟨s9, rfl, hcp⟩, hb⟩;obtain ⟨A3, c3, rfl, -⟩ := hcp.form;replace hcp : RdSl pgE W4 (fun b => W3.drew.heap.size ≤ b) (.slice A3 ps.length c3) ps := hcp;clear h_;have Hfresh := Lib.hid (HT.out);have hzo : w.heap.size ≤ W3.drew.heap.size := (by omega);replace ⟨HT, HH⟩ := sp1 (HT.out.call hb) (mv_ HH.out.move);replace hz := Nat.le_trans hz hb.size;clear hb;have HP : Hid (RdSl pgE W4 (Fr 0 [.blk W2.heap.size #[.slice (some ⟨L.g, 0, none⟩) 1 L.gc, .slice none 0 0] 32, stR false 0 (newW_ most) L [], .blk (w.heap.size + 1) #[.slice none 0 0, .slice none 0 0] 32, .blk w.heap.size #[.slice A ps.length c] 26, oldR w]) (.slice A3 ps.length c3) ps) := Lib.hid ((RdSl.fresh (E := pgE) hcp (by show 0 < 1; omega) Hfresh.out hzo).fr0 (by show 0 < 1; omega) (Nat.zero_le _));clear hcp Hfresh hzo;have h_ := HT.rz 3;go_wp2_with fail;refine ag_ ?_;refine ps_ ?_;repeat still_step
 refine wpStill_nil ?_;refine pl_ ?_;go_wp2_with fail;go_wp2_with fail;obtain ⟨bs, hbs⟩ : ∃ b, b = W4.heap.size := ⟨_, rfl⟩;rw [← hbs];replace ⟨HT, HH, HP⟩ := sp2 (HT.out.new' #[.slice A3 ps.length c3, .slice (some ⟨L.g, 0, none⟩) 1 L.gc, .slice none 0 0] 109 bs hbs) (mv_ HH.out.move) HP.s;replace hz := HT.zz hz;clear hbs;clear h_;generalize (W4.alloc (.cells #[.slice A3 ps.length c3, .slice (some ⟨L.g, 0, none⟩) 1 L.gc, .slice none 0 0] 109)) = W5 at *;replace ⟨HT, HH, HP⟩ := sp2 (nd1 (HT.out.drop 1)) (mv_ HH.out.move) HP.s;replace ⟨HT, HH, HP⟩ := sp2 (HT.out.perm (.swap _ _ _)) (mv_ HH.out.move) HP.s;replace ⟨HT, HH, HP⟩ := sp2 (HT.out.perm (.swap _ _ _)) (mv_ HH.out.move) HP.s;replace ⟨HT, HH, HP⟩ := sp2 (HT.out.stageHead (nk := ps.length) bs A3 c3 (by simp [headCells, hpA, hpc, newW_])) (mv_ HH.out.move) HP.s;replace HH : Hid (Heaps W5 (Fr 0 [stR true ps.length (newW_ most) { L with head := bs, kA := A3, kc := c3 } [], .blk (w.heap.size + 1) #[.slice none 0 0, .slice none 0 0] 32, .blk w.heap.size #[.slice A ps.length c] 26, oldR w]) (newW_ most) { L with head := bs, kA := A3, kc := c3 }) := HH;clear hpA hpc;have h_ := HT.rz 2;refine ⟨trivial, ?_⟩;refine ps_ ?_;repeat still_step
 refine wpStill_nil ?_;refine plan_end (NoPanic.normal ?_);clear h_;have h_ := HT.rz 2;go_wp2_with fail;clear Hr;clear HP HH;go_loopw [35] (fun i wl6 => ∃ (k : Nat), i = .int .i64 k ∧ k = 0 ∧ St 0 w wl6 [stR true ps.length (newW_ most) { L with head := bs, kA := A3, kc := c3 } [], .blk (w.heap.size + 1) #[.slice none 0 0, .slice none 0 0] 32, .blk w.heap.size #[.slice A ps.length c] 26, oldR w] ∧ w.heap.size + 1 + 1 ≤ wl6.heap.size) (fun i _ => l.length - (intOf i).toNat)
 case atStart =>
  refine ⟨0, ?_, ?_, ?_, ?_⟩
  ·rfl
  ·rfl
  ·with_reducible exact HT.out
  ·exact hz
 case round =>
  generalize wr = wl6 at *;clear HT hz;obtain ⟨k, rfl, hk, ht, hz⟩ := hrel;have HT := Lib.hid ht;clear ht;subst hk;obtain ⟨db, dq, rfl, _, _, y0, y1, y2, y3⟩ := (RdSl.old Hq.out (by decide) (HT.out.at_ 3 rfl)).at_d HX.out;rw [Nat.zero_mul, Nat.add_zero] at y0 y1 y2 y3;obtain ⟨dk, da, dn, dm⟩ := x;dsimp only at y0 y1 y2 y3;have i2 : (0 : Int) < (l.length : Int) := (by omega);have h_ := HT.rz 2;have c_ := HT.hc 0;try dsimp only at c_.1 c_.2.1 c_.2.2.1 c_.2.2.2.1 c_.2.2.2.2
  go_upto_region 10 with fail;replace HT := sp0 (HT.out.new' #[.int .i64 dk, .int .i64 da, .int .i64 dn, .int .i64 dm] 38 wl6.heap.size (by first | (simp; done) | rfl));replace hz := HT.zz hz;clear h_ c_;generalize (wl6.alloc (.cells #[.int .i64 dk, .int .i64 da, .int .i64 dn, .int .i64 dm] 38)) = W7 at *;clear y0 y1 y2 y3;have h_ := HT.rz 3;have c_ := HT.hc 1;try dsimp only at c_.1 c_.2.1 c_.2.2.1 c_.2.2.2.1 c_.2.2.2.2
  refine wp_region_plan [.still [0, 1, 2, 3, 4, 5, 6], .loud 7 [], .still [8]] (by kernel_rfl) (by kernel_rfl) ?_;refine ps_ ?_;repeat still_step
  refine wpStill_nil ?_;refine pl_ ?_;go_wp2_with fail;replace HT := sp0 HT.out.drew';replace hz := HT.zz hz;refine (actCheck_any dk da dn dm _ _).mono ?_;rintro en W8 ⟨rfl, hb⟩;clear h_ c_;replace HT := sp0 (HT.out.call hb);replace hz := Nat.le_trans hz hb.size;clear hb;rw [show deedF ⟨dk, da, dn, dm⟩ = E from HD.out];have h_ := HT.rz 3;have c_ := HT.hc 1;try dsimp only at c_.1 c_.2.1 c_.2.2.1 c_.2.2.2.1 c_.2.2.2.2
  go_wp2_with fail;refine ⟨trivial, ?_⟩;refine ps_ ?_;repeat still_step
  refine wpStill_nil ?_;refine plan_end (NoPanic.normal ?_);clear h_ c_;have h_ := HT.rz 3;go_wp2_with fail;clear h_;replace HT := sp0 (ns2 (HT.out.put2 2 (.slice none 0 0) (.slice none 0 0) rfl rfl));replace hz := HT.zz hz;generalize (W8.setCell ⟨w.heap.size + 1, 0, none⟩ (.slice none 0 0)).setCell ⟨w.heap.size + 1, 1, none⟩ (.slice none 0 0) = W9 at *;have h_ := HT.rz 3;try simp only [Exit.inBlock, Exit.then]
  refine bodyPost_ret (v := .tuple #[.agg #[.slice none 0 0, .slice none 0 0], .int .i64 E]) (by simp [results, Tryd.results22, go_sem, h_.2.2.2.1]) rfl ?_;exact ⟨none, 0, none, 0, rfl, RdSl.nil, RdSl.nil, HT.out.oldBelow 4 rfl⟩
theorem runNo_any (S T : Nat → Prop) (A B : Option Addr) (c d : Nat) (ps : List (List Ins)) (most : Int) (l : List Deed) (w : World) (hu : UsesAt w) (hr : RdSl pgE w S (.slice A ps.length c) ps) (hq : RdSl deedE w T (.slice B l.length d) l) (E : Int) (hE : runE ps most l = E) (h0 : E ≠ 0) (hc : newE_ ps most ≠ 0 ∨ 3000 < l.length ∨ ∃ x, l[0]? = some x ∧ deedF x ≠ 0) :
  Calls Tryd.prog 22 #[.agg #[.slice A ps.length c], .int .i64 most, .slice B l.length d] w fun en w' => ∃ A c B d, en = .returned (.tuple #[.agg #[.slice A 0 c, .slice B 0 d], .int .i64 E]) ∧ Below w.heap.size w w' := by
 have hW : runW ps most l = ⟨[], []⟩ := if_pos (by rw [hE]; exact h0);have key : Calls Tryd.prog 22 #[.agg #[.slice A ps.length c], .int .i64 most, .slice B l.length d] w (RunD w (runW ps most l) (runE ps most l)) := by
  by_cases hN : newE_ ps most = 0
  ·by_cases hl : 3000 < l.length
   ·exact runB_any S T A B c d ps most l w hu hr hq hN hl
   ·rcases hc with h | h | ⟨x, hx, hd⟩
    ·exact absurd hN h
    ·exact absurd h hl
    ·exact runF_any S T A B c d ps most l w hu hr hq hN hl x hx _ rfl hd
  ·exact runA_any S T A B c d ps most l w hu hr hq hN
 refine key.mono ?_;rintro en w' ⟨A, c, B, d, he, _, _, hb⟩;rw [hW, hE] at he;exact ⟨A, c, B, d, he, hb⟩
end Go.Proofs.YtabcjdalifhpdaaDoor
