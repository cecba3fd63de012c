/- Closed facts on this translation, one by one: what every row of it asks. No condition. -/
import Derived.Test.YtfafnjkinolkmaaDoorArgs
set_option maxRecDepth 100000
namespace Go.Proofs.YtfafnjkinolkmaaDoor
open Go.RowKit

def codesA : List Char := [104, 97, 114, 110, 101, 115, 115].map Char.ofNat
def codesB : List Char := [50, 97, 55, 50, 52, 52, 51, 49, 53, 55, 97, 98, 100, 54, 97, 49, 56, 97, 51, 51, 50, 52, 100, 54, 102, 55, 49, 49, 49, 99, 52, 51, 49, 54, 101, 57, 97, 53, 100, 102, 51, 50, 52, 100, 100, 98, 49, 55, 51, 52, 99, 98, 52, 50, 101, 53, 54, 56, 54, 51, 48, 98, 102, 99].map Char.ofNat
def codesC : List Char := [99, 117, 116].map Char.ofNat
def codesD : List Char := [97, 116, 32, 116, 114, 101, 97, 100, 119, 104, 101, 101, 108, 47, 116, 114, 101, 97, 100, 119, 104, 101, 101, 108, 108, 97, 119, 46, 67, 111, 100, 101, 67, 104, 101, 99, 107, 115, 32, 116, 114, 101, 97, 100, 119, 104, 101, 101, 108, 47, 116, 114, 101, 97, 100, 119, 104, 101, 101, 108, 108, 97, 119, 46, 67, 111, 100, 101, 69, 110, 99, 111, 100, 101, 115, 32, 116, 114, 101, 97, 100, 119, 104, 101, 101, 108, 47, 116, 114, 101, 97, 100, 119, 104, 101, 101, 108, 108, 97, 119, 46, 67, 111, 100, 101, 68, 101, 99, 111, 100, 101, 115, 32, 116, 114, 101, 97, 100, 119, 104, 101, 101, 108, 47, 116, 114, 101, 97, 100, 119, 104, 101, 101, 108, 108, 97, 119, 46, 86, 101, 114, 105, 102, 121, 84, 121, 112, 101, 115, 32, 116, 114, 101, 97, 100, 119, 104, 101, 101, 108, 47, 116, 114, 101, 97, 100, 119, 104, 101, 101, 108, 107, 101, 101, 112, 46, 80, 114, 111, 103, 114, 97, 109, 115, 79, 110, 99, 101, 32, 116, 114, 101, 97, 100, 119, 104, 101, 101, 108, 47, 116, 114, 101, 97, 100, 119, 104, 101, 101, 108, 108, 97, 119, 46, 86, 101, 114, 105, 102, 121, 67, 104, 101, 99, 107, 115, 32, 116, 114, 101, 97, 100, 119, 104, 101, 101, 108, 47, 116, 114, 101, 97, 100, 119, 104, 101, 101, 108, 107, 101, 101, 112, 46, 84, 121, 112, 101, 115, 75, 110, 111, 119, 110, 32, 116, 114, 101, 97, 100, 119, 104, 101, 101, 108, 47, 116, 114, 101, 97, 100, 119, 104, 101, 101, 108, 107, 101, 101, 112, 46, 84, 121, 112, 101, 115, 70, 108, 111, 119, 32, 116, 114, 101, 97, 100, 119, 104, 101, 101, 108, 47, 116, 114, 101, 97, 100, 119, 104, 101, 101, 108, 108, 97, 119, 46, 65, 99, 116, 111, 114, 67, 104, 101, 99, 107, 115, 32, 116, 114, 101, 97, 100, 119, 104, 101, 101, 108, 47, 116, 114, 101, 97, 100, 119, 104, 101, 101, 108, 108, 97, 119, 46, 65, 99, 116, 111, 114, 78, 101, 119, 32, 116, 114, 101, 97, 100, 119, 104, 101, 101, 108, 47, 116, 114, 101, 97, 100, 119, 104, 101, 101, 108, 107, 101, 101, 112, 46, 80, 114, 111, 103, 114, 97, 109, 115, 66, 97, 99, 107, 32, 116, 114, 101, 97, 100, 119, 104, 101, 101, 108, 47, 116, 114, 101, 97, 100, 119, 104, 101, 101, 108, 107, 101, 101, 112, 46, 80, 114, 111, 103, 114, 97, 109, 115, 66, 97, 100].map Char.ofNat
theorem make_of {P : Program} {ws : List (List Char)} (h : behindMainWord (wordsSigns P.initOrder.toList) = codesC :: ws) : P.make = some .cut := by
  unfold Program.make
  rw [h]
  have h1 : (codesC == "gc".toList || codesC == "spec".toList) = false := by kernel_rfl
  have h2 : (codesC == "cut".toList) = true := by kernel_rfl
  simp only [h1, h2, Bool.true_or, Bool.false_eq_true, if_true, if_false]
theorem lifts_of (ws : List (List Char)) : stripLifts liftWords (codesC :: ws) = ([], codesC :: ws) := by kernel_rfl
theorem final_of {P : Program} {ws : List (List Char)} (h : behindMainWord (wordsSigns P.initOrder.toList) = codesC :: ws) : P.liftsFinal = false := by
  unfold Program.liftsFinal Program.headLifts
  rw [h, lifts_of]
  kernel_rfl
theorem may_of {P : Program} {ws : List (List Char)} (h : behindMainWord (wordsSigns P.initOrder.toList) = codesC :: ws) (h1 : P.laysLater = false) (h2 : P.bearsReflect = false) (h3 : P.doorFits [] = true) : P.mayEnter = true := by
  unfold Program.mayEnter
  rw [h]
  dsimp only
  rw [lifts_of]
  have g1 : (codesC == "gc".toList || codesC == "spec".toList) = false := by kernel_rfl
  have g2 : (codesC == "carried".toList) = false := by kernel_rfl
  have g3 : ((codesC :: ws).head? == some "cut".toList) = true := by kernel_rfl
  simp only [g1, g2, g3, h1, h2, h3]
  rfl
theorem order_is : Tryd.prog.initOrder = String.ofList (codesA ++ Char.ofNat 32 :: (codesB ++ Char.ofNat 32 :: (codesC ++ Char.ofNat 32 :: codesD))) := by kernel_rfl
theorem words_are : behindMainWord (wordsSigns Tryd.prog.initOrder.toList) = codesC :: wordsSigns codesD := by
  rw [order_is, String.toList_ofList, wordsSigns_word _ _ (by kernel_rfl), wordsSigns_word _ _ (by kernel_rfl), wordsSigns_word _ _ (by kernel_rfl)]
  unfold behindMainWord
  exact if_pos (by kernel_rfl)
theorem fact_may : Tryd.prog.mayEnter = true := may_of words_are (by kernel_rfl) (by kernel_rfl) (by kernel_rfl)
theorem fact_final : ([] == Tryd.prog.headLifts) = true := by
  unfold Program.headLifts
  rw [words_are, lifts_of]
  kernel_rfl
theorem fact_lifts : Tryd.prog.liftsFinal = false := final_of words_are
theorem fact_make : (Tryd.prog.make == some .cut) = true := by rw [make_of words_are]; rfl
theorem fact_rowed : mapsRowed Tryd.prog = true := by kernel_rfl
theorem fact_stops : (Tryd.prog.stops == []) = true := by kernel_rfl
theorem fact_knobs : (Tryd.prog.stopKnobs == []) = true := by kernel_rfl
theorem fact_heard : Tryd.prog.stopsHeard = true := by kernel_rfl
theorem fact_keys : (true == Tryd.prog.plainKeys) = true := by kernel_rfl
end Go.Proofs.YtfafnjkinolkmaaDoor
