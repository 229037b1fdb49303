/-
  The walk of OrderKnown.
-/
import Derived.Test.YtkjlhifppjgieaaOrdN
import Derived.Test.YtkjlhifppjgieaaLaw01
import Derived.Test.YtkjlhifppjgieaaView
namespace Go.Proofs.Ytkjlhifppjgieaa
open Go.RowKit
set_option linter.unusedVariables false
set_option linter.unusedSimpArgs false

set_option maxHeartbeats 2000000 in
set_option maxRecDepth 100000 in
theorem orderKnown_walk (w : World) :
    Calls Try.prog 5 #[] w fun e w' => e = .returned (.bool true) ∧ Below w.heap.size w w' := by
  have HS := Sep.start w
  have hmk : ∀ w, (Instr.makeSlice 22 (.int .i64 9) (.int .i64 9)).run Try.prog w = .ok (.slice (some ⟨w.heap.size, 0, none⟩) 9 9) (w.alloc (.cells #[.int .u8 0, .int .u8 0, .int .u8 0, .int .u8 0, .int .u8 0, .int .u8 0, .int .u8 0, .int .u8 0, .int .u8 0] 5)) := fun _ => by kernel_rfl
  go_enter Try.func5, Try.ntmps5
  go_wp2_with fail
  refine (push_nil _ _ _ _).mono ?_
  rintro e w1 ⟨rfl, rfl⟩
  have HS1 := HS.alloc_ (.cells #[.int .u8 1] 5)
  go_wp2_with fail
  refine (peek_nil _ _).mono ?_
  rintro e w1 ⟨rfl, rfl⟩
  go_wp2_with fail
  refine (take_nil _ _).mono ?_
  rintro e w1 ⟨rfl, rfl⟩
  go_wp2_with fail
  refine (numbers_nil (ss := []) HS1 ⟨Rb.nil, by decide, by decide⟩).mono ?_
  rintro e w1 ⟨rfl, rfl⟩
  go_wp2_with fail
  refine (new_calls HS1).mono ?_
  rintro e w1 ⟨g, rfl, HS2⟩
  go_wp2_with fail
  refine (peek_yes (n := 0) HS2 (by decide) (by decide)).mono ?_
  rintro e w2 ⟨A2, c2, rfl, HS3⟩
  go_wp2_with fail
  refine (peek_no HS3.up1 (.inl (by decide))).mono ?_
  rintro e w3 ⟨rfl, rfl⟩
  go_wp2_with fail
  refine (numbers_peek (ss := []) HS3.up1 ⟨Rb.nil, by decide, by decide⟩ (by decide) (by decide) (by decide)).mono ?_
  rintro e w3 ⟨A3, c3, rfl, HS4⟩
  have HS5 := HS4.alloc_ (.cells #[.int .u8 1, .int .u8 2, .int .u8 3] 5)
  go_wp2_with fail
  refine (get_short _ _ _ _ _ (by decide) (by decide)).mono ?_
  rintro e w4 ⟨rfl, rfl⟩
  go_wp2_with fail
  refine (get_size _ _ _ _ _ (by decide)).mono ?_
  rintro e w4 ⟨rfl, rfl⟩
  have HS6 := HS5.alloc_ (.cells #[.int .u8 0, .int .u8 0, .int .u8 0, .int .u8 0, .int .u8 0, .int .u8 0, .int .u8 0, .int .u8 0, .int .u8 0] 5)
  go_wp2_with fail
  refine (get_size _ _ _ _ _ (by decide)).mono ?_
  rintro e w4 ⟨rfl, rfl⟩
  go_wp2_with fail
  refine (awake_calls HS6).mono ?_
  rintro e w5 ⟨rfl, HS7⟩
  go_wp2_with fail
  refine (len_nil _).mono ?_
  rintro e w6 ⟨rfl, rfl⟩
  go_wp2_with fail
  refine (put_ok (l := []) (s := 1) (x := 256) HS7 Rb.nil (by decide) (by decide) (by decide) (by decide) (by decide)).mono ?_
  rintro e w6 ⟨A6, c6, rfl, HS8⟩
  have hs := run_str (P := Try.prog) (c := c6) HS8.rd0 22 9 5 Try.underlying22 Try.underlying5 Try.underlying9
  rw [show strOfNums ([] ++ be 1 256) = ⟨#[0]⟩ from by decide] at hs
  go_wp2_with fail
  refine (put_bad (xs := []) (fun u hu => by cases hu) HS8 Rb.nil (by decide) (by decide)).mono ?_
  rintro e w7 ⟨A7, c7, rfl, HS9⟩
  go_wp2
  go_ret
  exact ⟨rfl, HS9.below⟩
end Go.Proofs.Ytkjlhifppjgieaa
