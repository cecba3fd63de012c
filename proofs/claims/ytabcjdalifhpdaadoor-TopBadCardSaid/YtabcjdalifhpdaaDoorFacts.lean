/- Closed facts on this translation, one by one: what every row of it asks. No condition. -/
import Derived.Test.YtabcjdalifhpdaaDoorArgs
set_option maxRecDepth 100000
namespace Go.Proofs.YtabcjdalifhpdaaDoor
open Go.RowKit
def codesA : List Char := [104, 97, 114, 110, 101, 115, 115].map Char.ofNat
def codesB : List Char := [100, 48, 100, 53, 99, 50, 50, 54, 53, 52, 56, 100, 98, 99, 53, 53, 50, 101, 53, 55, 98, 52, 101, 98, 50, 49, 52, 57, 102, 98, 98, 48, 100, 101, 48, 51, 56, 56, 54, 97, 57, 98, 57, 49, 48, 57, 101, 99, 100, 51, 56, 57, 100, 99, 54, 55, 50, 97, 52, 56, 101, 100, 97, 52].map Char.ofNat
def codesC : List Char := [99, 117, 116].map Char.ofNat
def codesD : List Char := [97, 116, 32, 116, 114, 101, 97, 100, 119, 104, 101, 101, 108, 47, 116, 114, 101, 97, 100, 119, 104, 101, 101, 108, 116, 111, 112, 46, 84, 111, 112, 66, 97, 100, 32, 116, 114, 101, 97, 100, 119, 104, 101, 101, 108, 47, 116, 114, 101, 97, 100, 119, 104, 101, 101, 108, 116, 111, 112, 46, 84, 111, 112, 85, 110, 105, 113, 117, 101, 32, 116, 114, 101, 97, 100, 119, 104, 101, 101, 108, 47, 116, 114, 101, 97, 100, 119, 104, 101, 101, 108, 116, 111, 112, 46, 84, 111, 112, 67, 108, 101, 97, 114, 32, 116, 114, 101, 97, 100, 119, 104, 101, 101, 108, 47, 116, 114, 101, 97, 100, 119, 104, 101, 101, 108, 107, 101, 101, 112, 46, 84, 121, 112, 101, 115, 75, 110, 111, 119, 110, 32, 116, 114, 101, 97, 100, 119, 104, 101, 101, 108, 47, 116, 114, 101, 97, 100, 119, 104, 101, 101, 108, 107, 101, 101, 112, 46, 84, 121, 112, 101, 115, 70, 108, 111, 119, 32, 116, 114, 101, 97, 100, 119, 104, 101, 101, 108, 47, 116, 114, 101, 97, 100, 119, 104, 101, 101, 108, 108, 97, 119, 46, 65, 99, 116, 111, 114, 67, 104, 101, 99, 107, 115, 32, 116, 114, 101, 97, 100, 119, 104, 101, 101, 108, 47, 116, 114, 101, 97, 100, 119, 104, 101, 101, 108, 108, 97, 119, 46, 65, 99, 116, 111, 114, 78, 101, 119, 32, 116, 114, 101, 97, 100, 119, 104, 101, 101, 108, 47, 116, 114, 101, 97, 100, 119, 104, 101, 101, 108, 107, 101, 101, 112, 46, 80, 114, 111, 103, 114, 97, 109, 115, 66, 97, 99, 107, 32, 116, 114, 101, 97, 100, 119, 104, 101, 101, 108, 47, 116, 114, 101, 97, 100, 119, 104, 101, 101, 108, 107, 101, 101, 112, 46, 80, 114, 111, 103, 114, 97, 109, 115, 66, 97, 100, 32, 116, 114, 101, 97, 100, 119, 104, 101, 101, 108, 47, 116, 114, 101, 97, 100, 119, 104, 101, 101, 108, 107, 101, 101, 112, 46, 80, 97, 114, 101, 110, 116, 115, 84, 111, 108, 100, 32, 116, 114, 101, 97, 100, 119, 104, 101, 101, 108, 47, 116, 114, 101, 97, 100, 119, 104, 101, 101, 108, 107, 101, 101, 112, 46, 69, 99, 104, 111, 84, 101, 108, 108, 115, 32, 116, 114, 101, 97, 100, 119, 104, 101, 101, 108, 47, 116, 114, 101, 97, 100, 119, 104, 101, 101, 108, 107, 101, 101, 112, 46, 66, 111, 120, 101, 115, 70, 117, 108, 108, 32, 116, 114, 101, 97, 100, 119, 104, 101, 101, 108, 47, 116, 114, 101, 97, 100, 119, 104, 101, 101, 108, 107, 101, 101, 112, 46, 87, 111, 114, 108, 100, 115, 71, 111, 111, 100, 32, 116, 114, 101, 97, 100, 119, 104, 101, 101, 108, 47, 116, 114, 101, 97, 100, 119, 104, 101, 101, 108, 116, 111, 112, 46, 84, 111, 112, 84, 119, 105, 99, 101, 32, 116, 114, 101, 97, 100, 119, 104, 101, 101, 108, 47, 116, 114, 101, 97, 100, 119, 104, 101, 101, 108, 116, 111, 112, 46, 84, 111, 112, 83, 111, 117, 110, 100].map Char.ofNat
theorem make_of {P : Program} {ws : List (List Char)} (h : behindMainWord (wordsSigns P.initOrder.toList) = codesC :: ws) : P.make = some .cut := by
 unfold Program.make;rw [h];have h1 : (codesC == "gc".toList || codesC == "spec".toList) = false := (by kernel_rfl);have h2 : (codesC == "cut".toList) = true := (by kernel_rfl);simp only [h1, h2, Bool.true_or, Bool.false_eq_true, if_true, if_false]
theorem lifts_of (ws : List (List Char)) : stripLifts liftWords (codesC :: ws) = ([], codesC :: ws) := by kernel_rfl
theorem final_of {P : Program} {ws : List (List Char)} (h : behindMainWord (wordsSigns P.initOrder.toList) = codesC :: ws) : P.liftsFinal = false := by
 unfold Program.liftsFinal Program.headLifts;rw [h, lifts_of];kernel_rfl
theorem may_of {P : Program} {ws : List (List Char)} (h : behindMainWord (wordsSigns P.initOrder.toList) = codesC :: ws) (h1 : P.laysLater = false) (h2 : P.bearsReflect = false) (h3 : P.doorFits [] = true) : P.mayEnter = true := by
 unfold Program.mayEnter;rw [h];dsimp only;rw [lifts_of];have g1 : (codesC == "gc".toList || codesC == "spec".toList) = false := (by kernel_rfl);have g2 : (codesC == "carried".toList) = false := (by kernel_rfl);have g3 : ((codesC :: ws).head? == some "cut".toList) = true := (by kernel_rfl);simp only [g1, g2, g3, h1, h2, h3];rfl
theorem order_is : Tryd.prog.initOrder = String.ofList (codesA ++ Char.ofNat 32 :: (codesB ++ Char.ofNat 32 :: (codesC ++ Char.ofNat 32 :: codesD))) := by kernel_rfl
theorem words_are : behindMainWord (wordsSigns Tryd.prog.initOrder.toList) = codesC :: wordsSigns codesD := by
 rw [order_is, String.toList_ofList, wordsSigns_word _ _ (by kernel_rfl), wordsSigns_word _ _ (by kernel_rfl), wordsSigns_word _ _ (by kernel_rfl)];unfold behindMainWord;exact if_pos (by kernel_rfl)
theorem fact_may : Tryd.prog.mayEnter = true := may_of words_are (by kernel_rfl) (by kernel_rfl) (by kernel_rfl)
theorem fact_final : ([] == Tryd.prog.headLifts) = true := by
 unfold Program.headLifts;rw [words_are, lifts_of];kernel_rfl
theorem fact_lifts : Tryd.prog.liftsFinal = false := final_of words_are
theorem fact_make : (Tryd.prog.make == some .cut) = true := by rw [make_of words_are]; rfl
theorem fact_rowed : mapsRowed Tryd.prog = true := by kernel_rfl
theorem fact_stops : (Tryd.prog.stops == []) = true := by kernel_rfl
theorem fact_knobs : (Tryd.prog.stopKnobs == []) = true := by kernel_rfl
theorem fact_heard : Tryd.prog.stopsHeard = true := by kernel_rfl
theorem fact_keys : (true == Tryd.prog.plainKeys) = true := by kernel_rfl
end Go.Proofs.YtabcjdalifhpdaaDoor
