/- Plain laws of what a clearing-up answers: what is kept, in its order; its places; the two ways to them. No condition; no run. -/
import Derived.Test.YtfafnjkinolkmaaTransP
import Derived.Test.YtfafnjkinolkmaaContF
namespace Go.Proofs.Ytfafnjkinolkmaa
open Go.RowKit

/-- The numbers of a list below n, in their order. -/
def keepL (n : Nat) (l : List Int) : List Int := ((List.range n).map (fun (i : Nat) => (i : Int))).filter (fun i => decide (i ∈ l))
theorem keepL_mem {n : Nat} {l : List Int} {x : Int} : x ∈ keepL n l ↔ x ∈ l ∧ 0 ≤ x ∧ x < n := by
  simp only [keepL, List.mem_filter, List.mem_map, List.mem_range, decide_eq_true_eq]
  constructor
  · rintro ⟨⟨i, hi, rfl⟩, h⟩
    exact ⟨h, by omega, by omega⟩
  · rintro ⟨h, h0, h1⟩
    exact ⟨⟨x.toNat, by omega, by omega⟩, h⟩
theorem ups (n : Nat) : ((List.range n).map (fun (i : Nat) => (i : Int))).Pairwise (· < ·) := by
  rw [List.pairwise_map]
  exact (List.pairwise_lt_range).imp (fun h => by omega)
theorem keepL_up (n : Nat) (l : List Int) : (keepL n l).Pairwise (· < ·) := (ups n).filter _
theorem keepL_nodup (n : Nat) (l : List Int) : (keepL n l).Nodup := (keepL_up n l).imp (fun h => by omega)
theorem keepL_len (n : Nat) (l : List Int) : (keepL n l).length ≤ n := by
  have := List.length_filter_le (fun i => decide (i ∈ l)) ((List.range n).map (fun (i : Nat) => (i : Int)))
  simpa [keepL] using this
theorem sort_keep {n : Nat} {l : List Int} (h : Told n l) : (l.mergeSort fun x y => decide (x ≤ y)) = keepL n l := by
  have h1 : (l.mergeSort fun x y => decide (x ≤ y)).Pairwise (fun x y => decide (x ≤ y) = true) := List.pairwise_mergeSort (fun a b c h1 h2 => by simp at *; omega) (fun a b => by simp; omega) l
  have h2 : (keepL n l).Pairwise (fun x y => decide (x ≤ y) = true) := (keepL_up n l).imp (fun h => by simp; omega)
  refine List.Perm.eq_of_pairwise (le := fun x y => decide (x ≤ y) = true) (fun a b _ _ h1 h2 => by simp at h1 h2; omega) h1 h2 ((List.mergeSort_perm l _).trans ?_)
  refine (List.perm_ext_iff_of_nodup h.nodup (keepL_nodup n l)).2 (fun x => ?_)
  rw [keepL_mem]
  exact ⟨fun hx => ⟨hx, h.within x hx⟩, fun hx => hx.1⟩
/-- What is kept of a heap, and of values. -/
def keptO (os : List Ob) (K : List Int) (n : Int) : Ob := ⟨(fieldsOf os n).map (newV (plM 0 K)), deadAt os n⟩
def collE (h : Hp) (roots : List V) : Int := if hpB h roots = false then 8 else 0
def collH (h : Hp) (roots : List V) (l : List Int) : Hp := if hpB h roots = false then ⟨0, []⟩ else ⟨h.most, (keepL h.objs.length l).map (keptO h.objs (keepL h.objs.length l))⟩
def collV (h : Hp) (roots : List V) (l : List Int) : List V := if hpB h roots = false then [] else roots.map (newV (plM 0 (keepL h.objs.length l)))
def CollD (w : World) (h : Hp) (roots : List V) (l : List Int) (en : Ending) (w' : World) : Prop :=
  ∃ u A c, en = .returned (.tuple #[u, .slice A (collV h roots l).length c, .int .i64 (collE h roots)]) ∧ RdH w' w.heap.size u (collH h roots l) ∧ RdSl vE w' (fun b => w.heap.size ≤ b) (.slice A (collV h roots l).length c) (collV h roots l) ∧ Below w.heap.size w w'
/-- The places as they are told one by one: of number i: how many kept ones stand ahead of it; -1: it is not kept. -/
def rankL (n : Nat) (l : List Int) (i : Nat) : Int := if (i : Int) ∈ l then ((keepL i l).length : Int) else -1
theorem keepL_succ (i : Nat) (l : List Int) : keepL (i + 1) l = keepL i l ++ (if (i : Int) ∈ l then [(i : Int)] else []) := by
  unfold keepL
  rw [List.range_succ, List.map_append, List.filter_append]
  by_cases h : (i : Int) ∈ l <;> simp [h]
theorem keepL_pre {n i : Nat} (l : List Int) (h : i ≤ n) : ∃ r, keepL n l = keepL i l ++ r ∧ ∀ x ∈ r, (i : Int) ≤ x := by
  induction n with
  | zero => obtain rfl : i = 0 := by omega
            exact ⟨[], by simp, by simp⟩
  | succ n ih =>
    by_cases hi : i = n + 1
    · subst hi; exact ⟨[], by simp, by simp⟩
    · obtain ⟨r, hr, hx⟩ := ih (by omega)
      refine ⟨r ++ (if (n : Int) ∈ l then [(n : Int)] else []), by rw [keepL_succ, hr, List.append_assoc], fun x hx' => ?_⟩
      rcases List.mem_append.1 hx' with h' | h'
      · exact hx x h'
      · split at h'
        · simp at h'; omega
        · cases h'
theorem rank_plM {n i : Nat} {l : List Int} (hi : i < n) (hm : (i : Int) ∈ l) : plM 0 (keepL n l) (i : Int) = ((keepL i l).length : Int) := by
  obtain ⟨r, hr, _⟩ := keepL_pre l (show i + 1 ≤ n from hi)
  rw [keepL_succ, if_pos hm] at hr
  have h1 : (keepL n l)[(keepL i l).length]? = some (i : Int) := by
    rw [hr, List.append_assoc, List.getElem?_append_right (Nat.le_refl _)]
    simp
  rw [plM_at (keepL_nodup n l) h1]
  omega
end Go.Proofs.Ytfafnjkinolkmaa
