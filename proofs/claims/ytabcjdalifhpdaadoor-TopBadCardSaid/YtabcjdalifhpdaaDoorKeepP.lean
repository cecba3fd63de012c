/- The programs that are made of raw numbers, in plain Lean; that they are verified. No condition; no run. -/
import Derived.Test.YtabcjdalifhpdaaDoorFlowM
namespace Go.Proofs.YtabcjdalifhpdaaDoor
open Go.RowKit
def runFlow (l : List Ins) : Nat → List (List Int) → Option (List (List Int))
 | 0, _ => none
 | n + 1, st => if (roundP l st).2 then runFlow l n (roundP l st).1 else some (roundP l st).1
theorem runFlow_flow {l : List Ins} : ∀ {n : Nat} {st r : List (List Int)}, runFlow l n st = some r → FlowP l st r
 | 0, _, _, h => by cases h
 | n + 1, st, r, h => by
  unfold runFlow at h;split at h
  ·rename_i hf
   exact .more hf (runFlow_flow h)
  ·rename_i hf
   injection h with h
   subst h;exact .done (by simpa using hf)
theorem flowL_run {l : List Ins} {n : Nat} {r : List (List Int)} (h : runFlow l n (start8 l.length) = some r) : flowL l = r := flowL_is (runFlow_flow h)
def badR (l : List Ins) (st : List (List Int)) : Option Nat := (List.range l.length).find? (fun i => match st[i]?, l[i]? with
 | some (x :: xs), some o => !mayB (x :: xs) o
 | _, _ => false)
theorem badL_run {l : List Ins} {r : List (List Int)} (h : flowL l = r) : badL l = badR l r := by
 subst h;rfl
def instrK (r : Rw) : Ins :=
 if pickN r.kind 26 < 3 then ⟨1, pickN r.a 6, 0, pickN r.c 12 - 3⟩
 else if pickN r.kind 26 < 5 then ⟨2 + pickN r.c 3, pickN r.a 6, pickN r.b 6, 0⟩
 else if pickN r.kind 26 < 8 then ⟨7, pickN r.a 6, 0, 1 + pickN r.c 4⟩
 else if pickN r.kind 26 < 10 then ⟨8, pickN r.a 6, pickN r.b 6, pickN r.c 3⟩
 else if pickN r.kind 26 < 12 then ⟨9, pickN r.a 6, pickN r.b 6, pickN r.c 2⟩
 else if pickN r.kind 26 < 14 then ⟨10, pickN r.a 6, pickN r.b 6, pickN r.c 2⟩
 else if pickN r.kind 26 < 17 then ⟨11, pickN r.a 6, pickN r.b 6, pickN r.c 2⟩
 else if pickN r.kind 26 = 17 then ⟨12, pickN r.a 6, pickN r.b 6, 0⟩
 else if pickN r.kind 26 < 20 then ⟨13, pickN r.a 6, pickN r.b 6, 0⟩
 else if pickN r.kind 26 = 20 then ⟨14, pickN r.a 6, pickN r.b 6, 0⟩
 else if pickN r.kind 26 < 23 then ⟨15, pickN r.a 6, 0, 0⟩
 else if pickN r.kind 26 = 23 then ⟨16, pickN r.a 6, 0, 0⟩
 else if pickN r.kind 26 = 24 then ⟨17, pickN r.a 6, pickN r.b 6, pickN r.c 3⟩
 else ⟨18, pickN r.a 6, 0, 0⟩
def doneI : Ins := ⟨0, 0, 0, 0⟩
noncomputable def rightK (l : List Ins) : Bool := (verP [l ++ [doneI], [doneI], [doneI]]).2.2 == 0
def moreK (r : Rw) : List Ins := if pickN (r.kind.tdiv 26) 5 = 0 then [⟨5, pickN r.b 6, 0, 2⟩, instrK r] else [instrK r]
noncomputable def stepK (out : List Ins) (r : Rw) : List Ins := if rightK (out ++ moreK r) then out ++ moreK r else out
noncomputable def behK (most : Int) (l : List Rw) (n : Nat) : List Ins := (l.take n).foldl (fun out r => if (out.length : Int) < most then stepK out r else out) []
noncomputable def behaviorK (l : List Rw) (most : Int) : List Ins := behK most l l.length ++ [doneI]
def ownK (l : List Rw) (k : Nat) : Nat → List Rw
 | 0 => []
 | n + 1 => ownK l k n ++ (match l[k + 3 * n]? with | some r => [r] | none => [])
noncomputable def programK (l : List Rw) (most : Int) : List (List Ins) := (List.range 3).map (fun k => behaviorK (ownK l k l.length) most)
structure RightK (most : Int) (l : List Ins) : Prop where
 code : codeF 3 (l ++ [doneI]) = 0
 good : badL (l ++ [doneI]) = none
 few : (l.length : Int) ≤ most + 1
theorem flow_done : flowL [doneI] = [[3, 3, 0, 0, 0, 0, 0, 0]] := flowL_run (n := 1) rfl
theorem bad_done : badL [doneI] = none := by rw [badL_run flow_done]; rfl
theorem right_nil {most : Int} (h : 0 ≤ most) : RightK most [] := ⟨rfl, bad_done, by simp; omega⟩
theorem verP_zero {p : List (List Ins)} (h : (verP p).2.2 = 0) : progF p = 0 ∧ ∀ l ∈ p, badL l = none := by
 by_cases h0 : progF p = 0
 ·refine ⟨h0, ?_⟩;unfold verP at h;rw [if_neg (by simp [h0])] at h;have key : ∀ (q : List (List Ins)) (k : Nat), badK k q = none → ∀ l ∈ q, badL l = none := by
   intro q;induction q with
   | nil => exact fun _ _ l hl => by cases hl
   | cons c q ih =>
    intro k hk l hl;unfold badK at hk;split at hk
    ·cases hk
    ·rename_i hc
     rcases List.mem_cons.1 hl with rfl | hl
     ·exact hc
     ·exact ih _ hk l hl
  split at h
  ·cases h
  ·rename_i hb
   exact key p 0 hb
 ·rw [verP_bad h0] at h;exact absurd h h0
theorem right_of {most : Int} {l : List Ins} (h : rightK l = true) (hm : (l.length : Int) ≤ most + 1) : RightK most l := by
 obtain ⟨h1, h2⟩ := verP_zero (p := [l ++ [doneI], [doneI], [doneI]]) (by simpa [rightK] using h);refine ⟨?_, h2 _ (by simp), hm⟩;unfold progF at h1;rw [if_neg (by simp), if_neg (by simp)] at h1;exact firstF_zero h1 _ (by simp)
theorem moreK_len (r : Rw) : (moreK r).length ≤ 2 := by unfold moreK; split <;> simp
theorem beh_fold {most : Int} : ∀ (l : List Rw) (out : List Ins), RightK most out → RightK most (l.foldl (fun out r => if (out.length : Int) < most then stepK out r else out) out)
 | [], _, h => h
 | r :: l, out, h => by
  rw [List.foldl_cons];refine beh_fold l _ ?_;split
  ·rename_i hlt
   unfold stepK;split
   ·rename_i hr
    exact right_of hr (by have := moreK_len r; simp; omega)
   ·exact h
  ·exact h
theorem beh_right {most : Int} (h : 0 ≤ most) (l : List Rw) (n : Nat) : RightK most (behK most l n) := beh_fold _ _ (right_nil h)
theorem behK_succ {most : Int} {l : List Rw} {j : Nat} {x : Rw} (h : l[j]? = some x) : behK most l (j + 1) = if ((behK most l j).length : Int) < most then stepK (behK most l j) x else behK most l j := by
 unfold behK;rw [List.take_add_one, h];simp
theorem fold_stay {most : Int} : ∀ (l : List Rw) (out : List Ins), ¬ (out.length : Int) < most → l.foldl (fun out r => if (out.length : Int) < most then stepK out r else out) out = out
 | [], _, _ => rfl
 | r :: l, out, h => by
  rw [List.foldl_cons, if_neg h];exact fold_stay l out h
theorem behK_stay {most : Int} {l : List Rw} {j : Nat} (h : ¬ ((behK most l j).length : Int) < most) : behK most l l.length = behK most l j := by
 have e : l.take l.length = l.take j ++ l.drop j := (by rw [List.take_append_drop, List.take_length]);unfold behK at h ⊢;rw [e, List.foldl_append];exact fold_stay _ _ h
theorem behK_all {most : Int} {l : List Rw} {j : Nat} (h : l.length ≤ j) : behK most l l.length = behK most l j := by
 unfold behK;rw [List.take_length, List.take_of_length_le h]
theorem programK_len (l : List Rw) (most : Int) : (programK l most).length = 3 := by simp [programK]
theorem programK_mem {l : List Rw} {most : Int} (h : 0 ≤ most) {c : List Ins} (hc : c ∈ programK l most) : ∃ b, c = b ++ [doneI] ∧ RightK most b := by
 obtain ⟨k, _, rfl⟩ := List.mem_map.1 hc;exact ⟨_, rfl, beh_right h _ _⟩
theorem firstF_none : ∀ {xs : List Int}, (∀ e ∈ xs, e = 0) → firstF xs = 0
 | [], _ => rfl
 | x :: xs, h => by
  rw [firstF, if_pos (h x (by simp))];exact firstF_none (fun e he => h e (by simp [he]))
theorem programK_ok {l : List Rw} {most : Int} (h : 0 ≤ most) : progF (programK l most) = 0 := by
 unfold progF;rw [programK_len, if_neg (by omega), if_neg (by omega)];refine firstF_none (fun e he => ?_);obtain ⟨c, hc, rfl⟩ := List.mem_map.1 he;obtain ⟨b, rfl, hb⟩ := programK_mem h hc;exact hb.code
theorem programK_ver {l : List Rw} {most : Int} (h : 0 ≤ most) : verP (programK l most) = (0, 0, 0) := by
 refine verP_ok (programK_ok h) (fun c hc => ?_);obtain ⟨b, rfl, hb⟩ := programK_mem h hc;exact hb.good
end Go.Proofs.YtabcjdalifhpdaaDoor
