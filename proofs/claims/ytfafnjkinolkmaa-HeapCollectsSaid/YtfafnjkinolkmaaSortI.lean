/- slices.Sort at numbers, on a row of the call's own: the shelf's contract, laid at this translation. No condition. -/
import Derived.Test.YtfafnjkinolkmaaStA
import Derived.Shelf.SortG.Plain
import Derived.Shelf.SortG.SortNone
import Derived.Sort.OwnSortedInts
import Derived.Ground.SlgnProg
namespace Go.Proofs.Ytfafnjkinolkmaa
open Go.RowKit Go.Shelf

def sortL_ren : Go.Shelf.Ren := ⟨fun  | 53 => 47 | 64 => 58 | 63 => 57 | 78 => 68 | 79 => 69 | 70 => 59 | 71 => 60 | 72 => 61 | 73 => 62 | 74 => 63 | 75 => 64 | 59 => 65 | 76 => 66 | 77 => 67 | 88 => 70 | 89 => 71 | 90 => 72 | 91 => 73 | 92 => 74 | 68 => 75 | 96 => 76 | n => n, fun  | 22 => 48 | 23 => 3 | 3 => 3 | 51 => 87 | 0 => 0 | 67 => 97 | 69 => 99 | 4 => 4 | 61 => 90 | 60 => 89 | 44 => 76 | 5 => 5 | 9 => 9 | 75 => 100 | 79 => 104 | 83 => 106 | 84 => 107 | n => n, fun | n => n⟩
theorem sortL : Go.Proofs.SlLaysN.n53 Try.prog sortL_ren := {
  mixed := by kernel_rfl
  f53 := ⟨Try.f47.name, by decide, Try.func47.trans (congrArg some (by kernel_rfl))⟩
  f59 := ⟨Try.f65.name, by decide, Try.func65.trans (congrArg some (by kernel_rfl))⟩
  f63 := ⟨Try.f57.name, by decide, Try.func57.trans (congrArg some (by kernel_rfl))⟩
  f64 := Try.func58.trans (congrArg some (by kernel_rfl))
  f68 := ⟨Try.f75.name, by decide, Try.func75.trans (congrArg some (by kernel_rfl))⟩
  f70 := ⟨Try.f59.name, by decide, Try.func59.trans (congrArg some (by kernel_rfl))⟩
  f71 := ⟨Try.f60.name, by decide, Try.func60.trans (congrArg some (by kernel_rfl))⟩
  f72 := ⟨Try.f61.name, by decide, Try.func61.trans (congrArg some (by kernel_rfl))⟩
  f73 := ⟨Try.f62.name, by decide, Try.func62.trans (congrArg some (by kernel_rfl))⟩
  f74 := ⟨Try.f63.name, by decide, Try.func63.trans (congrArg some (by kernel_rfl))⟩
  f75 := ⟨Try.f64.name, by decide, Try.func64.trans (congrArg some (by kernel_rfl))⟩
  f76 := ⟨Try.f66.name, by decide, Try.func66.trans (congrArg some (by kernel_rfl))⟩
  f77 := ⟨Try.f67.name, by decide, Try.func67.trans (congrArg some (by kernel_rfl))⟩
  f78 := Try.func68.trans (congrArg some (by kernel_rfl))
  f79 := Try.func69.trans (congrArg some (by kernel_rfl))
  f88 := ⟨Try.f70.name, by decide, Try.func70.trans (congrArg some (by kernel_rfl))⟩
  f89 := Try.func71.trans (congrArg some (by kernel_rfl))
  f90 := Try.func72.trans (congrArg some (by kernel_rfl))
  f91 := ⟨Try.f73.name, by decide, Try.func73.trans (congrArg some (by kernel_rfl))⟩
  f92 := ⟨Try.f74.name, by decide, Try.func74.trans (congrArg some (by kernel_rfl))⟩
  f96 := ⟨Try.f76.name, by decide, Try.func76.trans (congrArg some (by kernel_rfl))⟩
  t0 := Try.underlying0
  a0 := Try.isAgg0
  z0 := Try.sizeOf0
  v0 := Try.zeroValue0
  t3 := Try.underlying3
  a3 := Try.isAgg3
  z3 := Try.sizeOf3
  v3 := Try.zeroValue3
  t4 := Try.underlying4
  a4 := Try.isAgg4
  z4 := Try.sizeOf4
  v4 := Try.zeroValue4
  t5 := Try.underlying5
  a5 := Try.isAgg5
  z5 := Try.sizeOf5
  v5 := Try.zeroValue5
  t9 := Try.underlying9
  a9 := Try.isAgg9
  z9 := Try.sizeOf9
  v9 := Try.zeroValue9
  t22 := Try.underlying48
  a22 := Try.isAgg48
  z22 := Try.sizeOf48
  v22 := Try.zeroValue48
  t23 := Try.underlying3
  a23 := Try.isAgg3
  z23 := Try.sizeOf3
  v23 := Try.zeroValue3
  t44 := Try.underlying76
  a44 := Try.isAgg76
  z44 := Try.sizeOf76
  v44 := Try.zeroValue76
  t51 := Try.underlying87
  a51 := Try.isAgg87
  z51 := Try.sizeOf87
  v51 := Try.zeroValue87
  t60 := Try.underlying89
  a60 := Try.isAgg89
  z60 := Try.sizeOf89
  v60 := Try.zeroValue89
  t61 := Try.underlying90
  a61 := Try.isAgg90
  z61 := Try.sizeOf90
  v61 := Try.zeroValue90
  t67 := Try.underlying97
  a67 := Try.isAgg97
  z67 := Try.sizeOf97
  v67 := Try.zeroValue97
  t69 := Try.underlying99
  a69 := Try.isAgg99
  z69 := Try.sizeOf99
  v69 := Try.zeroValue99
  t75 := Try.underlying100
  a75 := Try.isAgg100
  z75 := Try.sizeOf100
  v75 := Try.zeroValue100
  t79 := Try.underlying104
  a79 := Try.isAgg104
  z79 := Try.sizeOf104
  v79 := Try.zeroValue104
  t83 := Try.underlying106
  a83 := Try.isAgg106
  z83 := Try.sizeOf106
  v83 := Try.zeroValue106
  t84 := Try.underlying107
  a84 := Try.isAgg107
  z84 := Try.sizeOf107
  v84 := Try.zeroValue107 }
theorem sortI_any (base : Nat) (A : Option Addr) (c : Nat) (l : List Int) (w : World) (h : w.ownsRow base 3 1 (.slice A l.length c) l.length (l.map (.int .i64))) (hl : l.length < 4611686018427387904) :
    Calls Try.prog 47 #[.slice A l.length c] w fun e w' => e = .returned (.tuple #[]) ∧ w.grownBy w' (Value.slice A l.length c).ownBlock ∧ w'.ownsRow base 3 1 (.slice A l.length c) l.length ((l.mergeSort fun x y => decide (x ≤ y)).map (.int .i64)) := by
  cases l with
  | nil =>
    refine (show Calls Try.prog 47 #[.slice A 0 c] w _ from AnyG.slices_Sort_int_none sortL A c w).mono ?_
    rintro e w' ⟨rfl, rfl⟩
    exact ⟨rfl, World.grownBy.refl _ _, by simpa using h⟩
  | cons x l =>
    rcases h.2 with ⟨h0, h1⟩ | ⟨g, cap, cur, hv, hg, hb, hn, hm, hs, ht⟩
    · simp at h1
    · injection hv with h1 h2 h3
      subst h1 h3
      refine (show Calls Try.prog 47 #[.slice (some ⟨g, 0, none⟩) (x :: l).length c] w _ from AnyG.slices_Sort_int sortL g 0 c (x :: l) w (holds_of_blockI hb (by simpa using ht)) (lt_of_blk hb) hl).mono ?_
      rintro e w' ⟨rfl, n, os, rfl⟩
      exact ⟨rfl, grownBy_sortedI _, ownsRow_sortedI (by simp) hg hb hn hm hs⟩
end Go.Proofs.Ytfafnjkinolkmaa
