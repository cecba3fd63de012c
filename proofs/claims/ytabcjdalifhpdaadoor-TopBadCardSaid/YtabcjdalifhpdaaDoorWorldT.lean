/- What is not verified: an instruction that may not be done stands ahead of a behavior. In plain Lean. No condition; no run. The walk of treadwheelkeep.WorldTells. Condition: the table of operators is as the program's text lays it. -/
import Derived.Test.YtabcjdalifhpdaaDoorFlowQ
import Derived.Test.YtabcjdalifhpdaaDoorKeepP
import Derived.Test.YtabcjdalifhpdaaDoorActNew
import Derived.Test.YtabcjdalifhpdaaDoorKProg
namespace Go.Proofs.YtabcjdalifhpdaaDoor
section
open Go.RowKit
theorem insF_shift {kinds len at_ : Int} {x : Ins} (_h0 : 0 ≤ at_) (h : insF kinds len at_ x = 0) : insF kinds (len + 1) (at_ + 1) x = 0 := by
 unfold insF at h ⊢;split at h; · cases h
 rename_i h1
 split at h; · cases h
 rename_i h2
 split at h; · cases h
 rename_i h3
 split at h; · cases h
 rename_i h4
 split at h; · cases h
 rename_i h5
 split at h; · cases h
 rename_i h6
 rw [if_neg h1, if_neg h2, if_neg h3, if_neg (by omega), if_neg h5, if_neg (by omega)]
structure OddI (i : Ins) : Prop where
 fit : ∀ len : Int, 2 ≤ len → insF 3 len 0 i = 0
 way : waysP 0 i = [1]
 bad : mayB [3, 3, 0, 0, 0, 0, 0, 0] i = false
def oddL : List Ins := [⟨15, 0, 0, 0⟩, ⟨13, 0, 1, 0⟩, ⟨2, 6, 7, 0⟩, ⟨17, 2, 7, 0⟩]
theorem odd_all : ∀ i ∈ oddL, OddI i := fun i hi => by
 simp only [oddL, List.mem_cons, List.mem_nil_iff, or_false] at hi;rcases hi with rfl | rfl | rfl | rfl
 all_goals
  refine ⟨fun len hl => ?_, rfl, rfl⟩;unfold insF;rw [if_neg (by decide), if_neg (by decide), if_neg (by decide), if_neg (fun h => absurd h.1 (by decide)), if_neg (by decide), if_neg (fun h => by have := h.1; omega)]
theorem bad_code {b : List Ins} {i : Ins} (hi : OddI i) (h : codeF 3 b = 0) (hl : b.length < 60) : codeF 3 (i :: b) = 0 := by
 have hb : ¬ (b.length = 0 ∨ 60 < b.length) := fun e => by
  unfold codeF at h;rw [if_pos e] at h
  cases h
 have h2 : firstF (rowF 3 b) = 0 := by
  unfold codeF at h;rwa [if_neg hb] at h
 unfold codeF;rw [if_neg (by simp; omega)];refine firstF_none (fun e he => ?_);obtain ⟨n, hn⟩ := List.getElem?_of_mem he;have hnl : n < (i :: b).length := by have := (List.getElem?_eq_some_iff.1 hn).1; rwa [rowF_len] at this
 cases n with
 | zero =>
  rw [rowF_at (i := i) rfl] at hn;injection hn with hn
  rw [← hn];exact hi.fit _ (by simp; omega)
 | succ n =>
  have hnb : n < b.length := (by have := hnl; simp at this; omega);have hx : b[n]? = some b[n] := List.getElem?_eq_getElem hnb;have h3 := firstF_zero h2 _ (List.mem_of_getElem? (rowF_at (kinds := 3) hx));rw [rowF_at (i := b[n]) (by simp)] at hn;injection hn with hn
  rw [← hn];have := insF_shift (by omega) h3;simp at this ⊢
  exact this
theorem bad_flow {b : List Ins} {i : Ins} (hi : OddI i) (h : codeF 3 b = 0) : badL (i :: b) = some 0 := by
 have hz : (flowL (i :: b))[0]? = some [3, 3, 0, 0, 0, 0, 0, 0] := flow_zero (fun n o ho t ht => by
  cases n with
  | zero =>
   simp at ho
   subst ho;replace ht : t ∈ waysP 0 i := ht;rw [hi.way] at ht;simp at ht
   omega
  | succ n =>
   have hx : b[n]? = some o := (by simpa using ho);have h2 : firstF (rowF 3 b) = 0 := by
    unfold codeF at h;split at h
    ·cases h
    ·exact h
   have h3 := firstF_zero h2 _ (List.mem_of_getElem? (rowF_at (kinds := 3) hx));unfold insF at h3;split at h3; · cases h3
   split at h3; · cases h3
   split at h3; · cases h3
   split at h3; · cases h3
   rename_i h4
   unfold waysP at ht;split at ht
   ·cases ht
   ·split at ht
    ·simp at ht; omega
    ·split at ht
     ·simp at ht; omega
     ·simp at ht; omega)
 refine badL_some (by simp) ?_ (fun j hj => by omega);rw [badI_some hz rfl, hi.bad];rfl
theorem bad_ver {b : List Ins} {r : List (List Ins)} {i : Ins} (hi : OddI i) (hp : progF (b :: r) = 0) (hr : r.length = 2) (hl : b.length < 60) : verP ((i :: b) :: r) = (0, 0, 9) := by
 have h3 : ((b :: r).length : Int) = 3 := (by simp [hr]);have hf : firstF ((b :: r).map (codeF 3)) = 0 := by
  unfold progF at hp;rw [if_neg (by simp), if_neg (by simp; omega), h3] at hp;exact hp
 have hb : codeF 3 b = 0 := firstF_zero hf _ (by simp);refine verP_no (n := 0) (i := 0) ?_ rfl (bad_flow hi hb) (fun j _ hj => by omega);unfold progF;rw [if_neg (by simp), if_neg (by simp; omega)];refine firstF_none (fun e he => ?_);have h3' : ((((i :: b) :: r).length : Nat) : Int) = 3 := (by simp [hr]);rw [h3'] at he;simp only [List.map_cons, List.mem_cons] at he;rcases he with rfl | he
 ·exact bad_code hi hb hl
 ·exact firstF_zero hf _ (by simp only [List.map_cons, List.mem_cons]; exact .inr he)
end
section
open Go.RowKit
theorem newL_any (S : Nat → Prop) (A : Option Addr) (c : Nat) (ps : List (List Ins)) (most : Int) (w : World) (hE : newE_ ps most = 0) (hu : UsesAt w) (hr : RdSl pgE w S (.slice A ps.length c) ps) :
  Calls Tryd.prog 21 #[.agg #[.slice A ps.length c], .int .i64 most] w fun e w' => ∃ A c, e = .returned (.tuple #[.agg #[.slice A 1 c, .slice none 0 0], .int .i64 0]) ∧ Below w.heap.size w w' :=
 (newOk_any S A c ps most w hE hu hr).mono fun _ _ ⟨_, _, _, he, hT, _⟩ => ⟨_, _, he, hT.below⟩
set_option maxHeartbeats 4000000 in
theorem worldTells_any (w : World) (hu : UsesAt w) : Calls Tryd.prog 18 #[] w fun e w' => e = .returned (.bool true) ∧ Below w.heap.size w w' := by
 have Hu := Lib.hid hu;obtain ⟨ps, hps⟩ : ∃ ps, programK [] 2 = ps := ⟨_, rfl⟩;have hE : newE_ ps 10 = 0 := (by rw [← hps]; unfold newE_; rw [programK_ver (by omega)]; rfl);have h3 : ps.length = 3 := (by rw [← hps]; exact programK_len [] 2);have GP := programK_any (fun _ => True) none 0 [] 2;rw [hps] at GP;have GG := Lib.hid GP;have HE := Lib.hid hE;clear hu hE hps GP;have T0 : St w.heap.size w w [] := St.start w (Nat.le_refl _);have HT := Lib.hid T0;have hz : w.heap.size ≤ w.heap.size := (by simp);clear T0;go_enter Tryd.func18, Tryd.ntmps18
 go_wp2_with fail;refine (GG.out _ (by omega) (Hu.out.below HT.out.below) RdSl.nil).mono ?_;rintro en W1 ⟨B1, d1, rfl, hrp, hb⟩;have Hfresh := Lib.hid (HT.out);have hzo : w.heap.size ≤ w.heap.size := (by omega);replace HT := sp0 (HT.out.call hb);clear hb;have Hp : Hid (RdSl pgE W1 (Fr w.heap.size []) (.slice B1 3 d1) ps) := Lib.hid (hrp.fresh (by first | decide | (show 0 < 1; omega)) Hfresh.out hzo);clear hrp;clear Hfresh hzo;go_wp2_with fail;have GN := newL_any _ B1 d1 ps 10 W1 HE.out (Hu.out.below HT.out.below) (by rw [h3]; exact Hp.out);rw [h3] at GN;have HGN := Lib.hid GN;clear GN;refine (HGN.out).mono ?_;rintro en W2 ⟨A2, c2, rfl, hb⟩;replace ⟨HT, Hp⟩ := sp1 (HT.out.call hb) Hp.s;clear hb;clear HGN;clear Hp;go_upto_region 2 with fail;replace HT := sp0 (HT.out.new' #[.slice A2 1 c2, .slice none 0 0] 32 W2.heap.size (by first | (simp; done) | rfl));generalize (W2.alloc (.cells #[.slice A2 1 c2, .slice none 0 0] 32)) = W3 at *;have h_ := HT.rz 1;go_wp2_with fail;go_ret
 exact ⟨rfl, HT.out.below⟩
end
end Go.Proofs.YtabcjdalifhpdaaDoor
