/-
  A contract is met only where the arguments are written the same: a contract that does not fit then falls at once. No program is named here.
-/
import Derived.Test.YtgepekailoopeaaSep
import Derived.Deep.QuietTactic
namespace Go.Proofs.Ytgepekailoopeaa
open Go.RowKit
theorem Calls.at_args {P : Program} {f : Nat} {args args' : Array Value} {w : World} {Q Q' : Ending → World → Prop} (h : Calls P f args w Q) (he : args = args') (hq : ∀ e w', Q e w' → Q' e w') : Calls P f args' w Q' := by
  subst he
  exact h.mono hq
theorem Calls.quiet_at {P : Program} {f : Nat} {args args' : Array Value} {w : World} {v : Value} (h : Calls P f args w fun e w' => e = .returned v ∧ w = w') (he : args = args') : Calls P f args' w fun e w' => e = .returned v ∧ w' = w := by
  subst he
  exact h.mono fun e w' h => ⟨h.1, h.2.symm⟩
end Go.Proofs.Ytgepekailoopeaa
