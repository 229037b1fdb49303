/-
  Contracts of order.Tape's methods at a nil pointer.
-/
import Derived.Test.YtbfcnbggkcaolaaOrdD
namespace Go.Proofs.Ytbfcnbggkcaolaa
open Go.RowKit
set_option linter.unusedVariables false
set_option linter.unusedSimpArgs false

theorem push_nil (w : World) (A : Option Addr) (n c : Nat) : Calls Try.prog 37 #[.pointer none, .slice A n c] w fun e w' => e = .returned (.tuple #[]) ∧ w = w' := by
  go_enter Try.func37, Try.ntmps37
  go_wp2
  go_end0
  exact ⟨rfl, rfl⟩
theorem len_nil (w : World) : Calls Try.prog 20 #[.pointer none] w fun e w' => e = .returned (.int .i64 0) ∧ w = w' := by
  go_enter Try.func20, Try.ntmps20
  go_wp2
  go_ret
  exact ⟨rfl, rfl⟩
theorem peek_nil (w : World) (n : Int) : Calls Try.prog 42 #[.pointer none, .int .i64 n] w fun e w' => e = .returned (.tuple #[.slice none 0 0, .bool false]) ∧ w = w' := by
  go_enter Try.func42, Try.ntmps42
  go_wp2
  go_ret2
  exact ⟨rfl, rfl⟩
theorem take_nil (w : World) (n : Int) : Calls Try.prog 40 #[.pointer none, .int .i64 n] w fun e w' => e = .returned (.tuple #[.slice none 0 0, .bool false]) ∧ w = w' := by
  go_enter Try.func40, Try.ntmps40
  go_wp2_with fail
  refine (peek_nil _ _).mono ?_
  rintro e w1 ⟨rfl, rfl⟩
  go_wp2
  go_ret2
  exact ⟨rfl, rfl⟩
theorem numbers_nil {w0 w : World} {O : Nat → Prop} {L : List Asr} {b : Bool} {A : Option Addr} {c : Nat} {ss : List Nat} (HS : Sep w0 w O L) (hz : Sizes A w0 O L ss) :
    Calls Try.prog 39 #[.pointer none, .bool b, .slice A ss.length c] w fun e w' => e = .returned (.tuple #[.slice none 0 0, .bool false]) ∧ w = w' := by
  refine numbers_fail HS hz ?_
  cases b
  · exact peek_nil _ _
  · exact take_nil _ _
end Go.Proofs.Ytbfcnbggkcaolaa
