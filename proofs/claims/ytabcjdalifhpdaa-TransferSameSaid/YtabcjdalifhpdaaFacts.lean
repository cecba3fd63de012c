/- Closed facts on this translation, one by one: what every row of it asks. No condition. -/
import Derived.Test.YtabcjdalifhpdaaArgs
set_option maxRecDepth 100000
namespace Go.Proofs.Ytabcjdalifhpdaa
open Go.RowKit
def codesA : List Char := [104, 97, 114, 110, 101, 115, 115].map Char.ofNat
def codesB : List Char := [50, 52, 57, 49, 97, 49, 98, 54, 100, 52, 49, 100, 99, 98, 101, 55, 52, 54, 102, 53, 97, 97, 54, 99, 54, 48, 53, 53, 48, 54, 51, 101, 102, 49, 99, 52, 54, 48, 99, 98, 102, 53, 57, 50, 102, 57, 51, 50, 54, 98, 102, 101, 50, 53, 99, 97, 102, 101, 53, 51, 50, 99, 56, 51].map Char.ofNat
def codesC : List Char := [99, 117, 116].map Char.ofNat
def codesD : List Char := [97, 116, 32, 116, 114, 101, 97, 100, 119, 104, 101, 101, 108, 47, 116, 114, 101, 97, 100, 119, 104, 101, 101, 108, 107, 101, 101, 112, 46, 84, 114, 97, 110, 115, 102, 101, 114, 83, 97, 109, 101, 32, 116, 114, 101, 97, 100, 119, 104, 101, 101, 108, 47, 116, 114, 101, 97, 100, 119, 104, 101, 101, 108, 107, 101, 101, 112, 46, 67, 111, 108, 108, 101, 99, 116, 83, 97, 109, 101].map Char.ofNat
theorem make_of {P : Program} {ws : List (List Char)} (h : behindMainWord (wordsSigns P.initOrder.toList) = codesC :: ws) : P.make = some .cut := by
 unfold Program.make;rw [h];have h1 : (codesC == "gc".toList || codesC == "spec".toList) = false := (by kernel_rfl);have h2 : (codesC == "cut".toList) = true := (by kernel_rfl);simp only [h1, h2, Bool.true_or, Bool.false_eq_true, if_true, if_false]
theorem lifts_of (ws : List (List Char)) : stripLifts liftWords (codesC :: ws) = ([], codesC :: ws) := by kernel_rfl
theorem final_of {P : Program} {ws : List (List Char)} (h : behindMainWord (wordsSigns P.initOrder.toList) = codesC :: ws) : P.liftsFinal = false := by
 unfold Program.liftsFinal Program.headLifts;rw [h, lifts_of];kernel_rfl
theorem may_of {P : Program} {ws : List (List Char)} (h : behindMainWord (wordsSigns P.initOrder.toList) = codesC :: ws) (h1 : P.laysLater = false) (h2 : P.bearsReflect = false) (h3 : P.doorFits [] = true) : P.mayEnter = true := by
 unfold Program.mayEnter;rw [h];dsimp only;rw [lifts_of];have g1 : (codesC == "gc".toList || codesC == "spec".toList) = false := (by kernel_rfl);have g2 : (codesC == "carried".toList) = false := (by kernel_rfl);have g3 : ((codesC :: ws).head? == some "cut".toList) = true := (by kernel_rfl);simp only [g1, g2, g3, h1, h2, h3];rfl
theorem order_is : Try.prog.initOrder = String.ofList (codesA ++ Char.ofNat 32 :: (codesB ++ Char.ofNat 32 :: (codesC ++ Char.ofNat 32 :: codesD))) := by kernel_rfl
theorem words_are : behindMainWord (wordsSigns Try.prog.initOrder.toList) = codesC :: wordsSigns codesD := by
 rw [order_is, String.toList_ofList, wordsSigns_word _ _ (by kernel_rfl), wordsSigns_word _ _ (by kernel_rfl), wordsSigns_word _ _ (by kernel_rfl)];unfold behindMainWord;exact if_pos (by kernel_rfl)
theorem fact_may : Try.prog.mayEnter = true := may_of words_are (by kernel_rfl) (by kernel_rfl) (by kernel_rfl)
theorem fact_final : ([] == Try.prog.headLifts) = true := by
 unfold Program.headLifts;rw [words_are, lifts_of];kernel_rfl
theorem fact_lifts : Try.prog.liftsFinal = false := final_of words_are
theorem fact_make : (Try.prog.make == some .cut) = true := by rw [make_of words_are]; rfl
theorem fact_rowed : mapsRowed Try.prog = true := by kernel_rfl
theorem fact_stops : (Try.prog.stops == []) = true := by kernel_rfl
theorem fact_knobs : (Try.prog.stopKnobs == []) = true := by kernel_rfl
theorem fact_heard : Try.prog.stopsHeard = true := by kernel_rfl
theorem fact_keys : (true == Try.prog.plainKeys) = true := by kernel_rfl
end Go.Proofs.Ytabcjdalifhpdaa
