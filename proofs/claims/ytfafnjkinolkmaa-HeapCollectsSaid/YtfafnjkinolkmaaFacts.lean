/- Closed facts on this translation, one by one: what every row of it asks. No condition. -/
import Derived.Test.YtfafnjkinolkmaaArgs
set_option maxRecDepth 100000
namespace Go.Proofs.Ytfafnjkinolkmaa
open Go.RowKit

def codesA : List Char := [104, 97, 114, 110, 101, 115, 115].map Char.ofNat
def codesB : List Char := [53, 49, 53, 53, 53, 56, 53, 51, 100, 51, 57, 100, 54, 102, 57, 55, 54, 49, 56, 50, 98, 98, 56, 49, 54, 48, 54, 52, 51, 48, 55, 53, 52, 56, 50, 57, 98, 56, 49, 53, 56, 49, 98, 102, 52, 56, 56, 97, 56, 49, 49, 54, 55, 99, 98, 49, 57, 97, 55, 52, 100, 100, 55, 98].map Char.ofNat
def codesC : List Char := [99, 117, 116].map Char.ofNat
def codesD : List Char := [97, 116, 32, 116, 114, 101, 97, 100, 119, 104, 101, 101, 108, 47, 116, 114, 101, 97, 100, 119, 104, 101, 101, 108, 107, 101, 101, 112, 46, 72, 101, 97, 112, 71, 111, 111, 100, 32, 116, 114, 101, 97, 100, 119, 104, 101, 101, 108, 47, 116, 114, 101, 97, 100, 119, 104, 101, 101, 108, 107, 101, 101, 112, 46, 83, 101, 116, 71, 101, 116, 115, 32, 116, 114, 101, 97, 100, 119, 104, 101, 101, 108, 47, 116, 114, 101, 97, 100, 119, 104, 101, 101, 108, 108, 97, 119, 46, 72, 101, 97, 112, 84, 114, 97, 110, 115, 102, 101, 114, 115, 32, 116, 114, 101, 97, 100, 119, 104, 101, 101, 108, 47, 116, 114, 101, 97, 100, 119, 104, 101, 101, 108, 107, 101, 101, 112, 46, 82, 101, 97, 99, 104, 101, 115, 79, 110, 99, 101, 32, 116, 114, 101, 97, 100, 119, 104, 101, 101, 108, 47, 116, 114, 101, 97, 100, 119, 104, 101, 101, 108, 107, 101, 101, 112, 46, 84, 114, 97, 110, 115, 102, 101, 114, 83, 97, 109, 101, 32, 116, 114, 101, 97, 100, 119, 104, 101, 101, 108, 47, 116, 114, 101, 97, 100, 119, 104, 101, 101, 108, 108, 97, 119, 46, 72, 101, 97, 112, 67, 111, 108, 108, 101, 99, 116, 115, 32, 116, 114, 101, 97, 100, 119, 104, 101, 101, 108, 47, 116, 114, 101, 97, 100, 119, 104, 101, 101, 108, 107, 101, 101, 112, 46, 67, 111, 108, 108, 101, 99, 116, 83, 97, 109, 101].map Char.ofNat
theorem make_of {P : Program} {ws : List (List Char)} (h : behindMainWord (wordsSigns P.initOrder.toList) = codesC :: ws) : P.make = some .cut := by
  unfold Program.make
  rw [h]
  have h1 : (codesC == "gc".toList || codesC == "spec".toList) = false := by kernel_rfl
  have h2 : (codesC == "cut".toList) = true := by kernel_rfl
  simp only [h1, h2, Bool.true_or, Bool.false_eq_true, if_true, if_false]
theorem lifts_of (ws : List (List Char)) : stripLifts liftWords (codesC :: ws) = ([], codesC :: ws) := by kernel_rfl
theorem final_of {P : Program} {ws : List (List Char)} (h : behindMainWord (wordsSigns P.initOrder.toList) = codesC :: ws) : P.liftsFinal = false := by
  unfold Program.liftsFinal Program.headLifts
  rw [h, lifts_of]
  kernel_rfl
theorem may_of {P : Program} {ws : List (List Char)} (h : behindMainWord (wordsSigns P.initOrder.toList) = codesC :: ws) (h1 : P.laysLater = false) (h2 : P.bearsReflect = false) (h3 : P.doorFits [] = true) : P.mayEnter = true := by
  unfold Program.mayEnter
  rw [h]
  dsimp only
  rw [lifts_of]
  have g1 : (codesC == "gc".toList || codesC == "spec".toList) = false := by kernel_rfl
  have g2 : (codesC == "carried".toList) = false := by kernel_rfl
  have g3 : ((codesC :: ws).head? == some "cut".toList) = true := by kernel_rfl
  simp only [g1, g2, g3, h1, h2, h3]
  rfl
theorem order_is : Try.prog.initOrder = String.ofList (codesA ++ Char.ofNat 32 :: (codesB ++ Char.ofNat 32 :: (codesC ++ Char.ofNat 32 :: codesD))) := by kernel_rfl
theorem words_are : behindMainWord (wordsSigns Try.prog.initOrder.toList) = codesC :: wordsSigns codesD := by
  rw [order_is, String.toList_ofList, wordsSigns_word _ _ (by kernel_rfl), wordsSigns_word _ _ (by kernel_rfl), wordsSigns_word _ _ (by kernel_rfl)]
  unfold behindMainWord
  exact if_pos (by kernel_rfl)
theorem fact_may : Try.prog.mayEnter = true := may_of words_are (by kernel_rfl) (by kernel_rfl) (by kernel_rfl)
theorem fact_final : ([] == Try.prog.headLifts) = true := by
  unfold Program.headLifts
  rw [words_are, lifts_of]
  kernel_rfl
theorem fact_lifts : Try.prog.liftsFinal = false := final_of words_are
theorem fact_make : (Try.prog.make == some .cut) = true := by rw [make_of words_are]; rfl
theorem fact_rowed : mapsRowed Try.prog = true := by kernel_rfl
theorem fact_stops : (Try.prog.stops == []) = true := by kernel_rfl
theorem fact_knobs : (Try.prog.stopKnobs == []) = true := by kernel_rfl
theorem fact_heard : Try.prog.stopsHeard = true := by kernel_rfl
theorem fact_keys : (true == Try.prog.plainKeys) = true := by kernel_rfl
end Go.Proofs.Ytfafnjkinolkmaa
