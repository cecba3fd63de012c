/- slices.Sort at numbers, on a row of the call's own: the shelf's contract, laid at this translation. No condition. -/
import Derived.Test.YtabcjdalifhpdaaStA
import Derived.Shelf.SortG.Plain
import Derived.Shelf.SortG.SortNone
import Derived.Sort.OwnSortedInts
import Derived.Ground.SlgnProg
namespace Go.Proofs.Ytabcjdalifhpdaa
open Go.RowKit Go.Shelf

def sortL_ren : Go.Shelf.Ren := ⟨fun  | 53 => 27 | 64 => 37 | 63 => 36 | 78 => 49 | 79 => 50 | 70 => 40 | 71 => 41 | 72 => 42 | 73 => 43 | 74 => 44 | 75 => 45 | 59 => 46 | 76 => 47 | 77 => 48 | 88 => 51 | 89 => 52 | 90 => 53 | 91 => 54 | 92 => 55 | 68 => 56 | 96 => 57 | n => n, fun  | 22 => 32 | 23 => 3 | 3 => 3 | 51 => 78 | 0 => 0 | 67 => 89 | 69 => 91 | 4 => 4 | 61 => 82 | 60 => 81 | 44 => 63 | 5 => 5 | 9 => 9 | 75 => 92 | 79 => 96 | 83 => 98 | 84 => 99 | n => n, fun | n => n⟩
theorem sortL : Go.Proofs.SlLaysN.n53 Try.prog sortL_ren := {
  mixed := by kernel_rfl
  f53 := ⟨Try.f27.name, by decide, Try.func27.trans (congrArg some (by kernel_rfl))⟩
  f59 := ⟨Try.f46.name, by decide, Try.func46.trans (congrArg some (by kernel_rfl))⟩
  f63 := ⟨Try.f36.name, by decide, Try.func36.trans (congrArg some (by kernel_rfl))⟩
  f64 := Try.func37.trans (congrArg some (by kernel_rfl))
  f68 := ⟨Try.f56.name, by decide, Try.func56.trans (congrArg some (by kernel_rfl))⟩
  f70 := ⟨Try.f40.name, by decide, Try.func40.trans (congrArg some (by kernel_rfl))⟩
  f71 := ⟨Try.f41.name, by decide, Try.func41.trans (congrArg some (by kernel_rfl))⟩
  f72 := ⟨Try.f42.name, by decide, Try.func42.trans (congrArg some (by kernel_rfl))⟩
  f73 := ⟨Try.f43.name, by decide, Try.func43.trans (congrArg some (by kernel_rfl))⟩
  f74 := ⟨Try.f44.name, by decide, Try.func44.trans (congrArg some (by kernel_rfl))⟩
  f75 := ⟨Try.f45.name, by decide, Try.func45.trans (congrArg some (by kernel_rfl))⟩
  f76 := ⟨Try.f47.name, by decide, Try.func47.trans (congrArg some (by kernel_rfl))⟩
  f77 := ⟨Try.f48.name, by decide, Try.func48.trans (congrArg some (by kernel_rfl))⟩
  f78 := Try.func49.trans (congrArg some (by kernel_rfl))
  f79 := Try.func50.trans (congrArg some (by kernel_rfl))
  f88 := ⟨Try.f51.name, by decide, Try.func51.trans (congrArg some (by kernel_rfl))⟩
  f89 := Try.func52.trans (congrArg some (by kernel_rfl))
  f90 := Try.func53.trans (congrArg some (by kernel_rfl))
  f91 := ⟨Try.f54.name, by decide, Try.func54.trans (congrArg some (by kernel_rfl))⟩
  f92 := ⟨Try.f55.name, by decide, Try.func55.trans (congrArg some (by kernel_rfl))⟩
  f96 := ⟨Try.f57.name, by decide, Try.func57.trans (congrArg some (by kernel_rfl))⟩
  t0 := Try.underlying0
  a0 := Try.isAgg0
  z0 := Try.sizeOf0
  v0 := Try.zeroValue0
  t3 := Try.underlying3
  a3 := Try.isAgg3
  z3 := Try.sizeOf3
  v3 := Try.zeroValue3
  t4 := Try.underlying4
  a4 := Try.isAgg4
  z4 := Try.sizeOf4
  v4 := Try.zeroValue4
  t5 := Try.underlying5
  a5 := Try.isAgg5
  z5 := Try.sizeOf5
  v5 := Try.zeroValue5
  t9 := Try.underlying9
  a9 := Try.isAgg9
  z9 := Try.sizeOf9
  v9 := Try.zeroValue9
  t22 := Try.underlying32
  a22 := Try.isAgg32
  z22 := Try.sizeOf32
  v22 := Try.zeroValue32
  t23 := Try.underlying3
  a23 := Try.isAgg3
  z23 := Try.sizeOf3
  v23 := Try.zeroValue3
  t44 := Try.underlying63
  a44 := Try.isAgg63
  z44 := Try.sizeOf63
  v44 := Try.zeroValue63
  t51 := Try.underlying78
  a51 := Try.isAgg78
  z51 := Try.sizeOf78
  v51 := Try.zeroValue78
  t60 := Try.underlying81
  a60 := Try.isAgg81
  z60 := Try.sizeOf81
  v60 := Try.zeroValue81
  t61 := Try.underlying82
  a61 := Try.isAgg82
  z61 := Try.sizeOf82
  v61 := Try.zeroValue82
  t67 := Try.underlying89
  a67 := Try.isAgg89
  z67 := Try.sizeOf89
  v67 := Try.zeroValue89
  t69 := Try.underlying91
  a69 := Try.isAgg91
  z69 := Try.sizeOf91
  v69 := Try.zeroValue91
  t75 := Try.underlying92
  a75 := Try.isAgg92
  z75 := Try.sizeOf92
  v75 := Try.zeroValue92
  t79 := Try.underlying96
  a79 := Try.isAgg96
  z79 := Try.sizeOf96
  v79 := Try.zeroValue96
  t83 := Try.underlying98
  a83 := Try.isAgg98
  z83 := Try.sizeOf98
  v83 := Try.zeroValue98
  t84 := Try.underlying99
  a84 := Try.isAgg99
  z84 := Try.sizeOf99
  v84 := Try.zeroValue99 }
theorem sortI_any (base : Nat) (A : Option Addr) (c : Nat) (l : List Int) (w : World) (h : w.ownsRow base 3 1 (.slice A l.length c) l.length (l.map (.int .i64))) (hl : l.length < 4611686018427387904) :
    Calls Try.prog 27 #[.slice A l.length c] w fun e w' => e = .returned (.tuple #[]) ∧ w.grownBy w' (Value.slice A l.length c).ownBlock ∧ w'.ownsRow base 3 1 (.slice A l.length c) l.length ((l.mergeSort fun x y => decide (x ≤ y)).map (.int .i64)) := by
  cases l with
  | nil =>
    refine (show Calls Try.prog 27 #[.slice A 0 c] w _ from AnyG.slices_Sort_int_none sortL A c w).mono ?_
    rintro e w' ⟨rfl, rfl⟩
    exact ⟨rfl, World.grownBy.refl _ _, by simpa using h⟩
  | cons x l =>
    rcases h.2 with ⟨h0, h1⟩ | ⟨g, cap, cur, hv, hg, hb, hn, hm, hs, ht⟩
    · simp at h1
    · injection hv with h1 h2 h3
      subst h1 h3
      refine (show Calls Try.prog 27 #[.slice (some ⟨g, 0, none⟩) (x :: l).length c] w _ from AnyG.slices_Sort_int sortL g 0 c (x :: l) w (holds_of_blockI hb (by simpa using ht)) (lt_of_blk hb) hl).mono ?_
      rintro e w' ⟨rfl, n, os, rfl⟩
      exact ⟨rfl, grownBy_sortedI _, ownsRow_sortedI (by simp) hg hb hn hm hs⟩
end Go.Proofs.Ytabcjdalifhpdaa
