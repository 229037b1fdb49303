/-
  Contracts of order.Tape's methods at a nil pointer.
-/
import Derived.Test.YtgepekailoopeaaOrdD
import Derived.Test.YtgepekailoopeaaOrdNP
namespace Go.Proofs.Ytgepekailoopeaa
open Go.RowKit
set_option linter.unusedVariables false
set_option linter.unusedSimpArgs false

theorem numbers_nil {w0 w : World} {O : Nat → Prop} {L : List Asr} {b : Bool} {A : Option Addr} {c : Nat} {ss : List Nat} (HS : Sep w0 w O L) (hz : Sizes A w0 O L ss) :
    Calls Try.prog 74 #[.pointer none, .bool b, .slice A ss.length c] w fun e w' => e = .returned (.tuple #[.slice none 0 0, .bool false]) ∧ w = w' := by
  refine numbers_fail HS hz ?_
  cases b
  · exact peek_nil _ _
  · exact take_nil _ _
end Go.Proofs.Ytgepekailoopeaa
