/-
  The awake test of layer 1.
-/
import Derived.Test.YtkjlhifppjgieaaOrdD
import Derived.Test.YtkjlhifppjgieaaByt
namespace Go.Proofs.Ytkjlhifppjgieaa
open Go.RowKit
set_option linter.unusedVariables false
set_option linter.unusedSimpArgs false
section
variable {w0 w : World} {O : Nat → Prop} {L : List Asr}

set_option maxHeartbeats 1000000 in
theorem awake_calls (HS : Sep w0 w O L) : Calls Try.prog 12 #[] w fun e w' => e = .returned (.bool true) ∧ Sep w0 w' O L := by
  go_enter Try.func12, Try.ntmps12
  go_wp2_with fail
  refine (new_calls HS).mono ?_
  rintro e w1 ⟨g, rfl, HS1⟩
  go_wp2_with fail
  refine (push_calls (m := [1, 2]) (HS1.lit #[.int .u8 1, .int .u8 2] 5 1 2 rfl (by decide)).up1 Rb.i0 (by simp)).mono ?_
  rintro e w2 ⟨rfl, HS2⟩
  go_wp2_with fail
  refine (push_calls (m := [3]) (HS2.lit #[.int .u8 3] 5 1 1 rfl (by decide)).up1 Rb.i0 (by simp)).mono ?_
  rintro e w3 ⟨rfl, HS3⟩
  go_wp2_with fail
  refine (numbers_take (ss := [2, 1]) (HS3.lit #[.int .i64 2, .int .i64 1] 3 1 2 rfl (by decide)).up1 ⟨Rb.i0, by decide, by decide⟩ (by decide) (by decide) (by decide)).mono ?_
  rintro e w4 ⟨A4, c4, rfl, HS4⟩
  obtain ⟨g4, rfl⟩ := HS4.own_some (by decide)
  rw [show cut ([] ++ [1, 2] ++ [3]) [2, 1] = [258, 3] from by decide, show ([] ++ [1, 2] ++ [3] : List Int).drop (tot [2, 1]) = [] from by decide, show [2, 1].length = 2 from rfl] at HS4
  have HS5 := HS4.lit #[.int .u8 1, .int .u8 2, .int .u8 3] 5 1 3 rfl (by decide)
  go_wp2_with fail
  refine (get_ok (l := [1, 2, 3]) (s := 2) HS5 Rb.i0 (by decide) (by decide) (by decide) (by decide) (by decide)).mono ?_
  rintro e w5 ⟨rfl, rfl⟩
  have e0 := HS5.up1.own_cell (j := 0) (by decide)
  have e1 := HS5.up1.own_cell (j := 1) (by decide)
  simp [kv] at e0 e1
  rw [show num ([1, 2, 3].take 2) = 258 from by decide]
  go_wp2_with fail
  refine (len_calls HS5.up2).mono ?_
  rintro e w6 ⟨rfl, rfl⟩
  go_wp2_with fail
  refine (put_ok (l := [9]) (s := 2) (x := 258) (HS5.litB #[.int .u8 9] 5 1 1 rfl (by decide) (by simp)) Rb.i0 (by decide) (by decide) (by decide) (by decide) (by decide)).mono ?_
  rintro e w7 ⟨A7, c7, rfl, HS7⟩
  have hs := run_str (P := Try.prog) (c := c7) HS7.rd0 22 9 5 Try.underlying22 Try.underlying5 Try.underlying9
  rw [show strOfNums ([9] ++ be 2 258) = ⟨#[9, 1, 2]⟩ from by decide] at hs
  go_wp2
  go_ret
  exact ⟨rfl, HS7.dropN 8⟩
end
end Go.Proofs.Ytkjlhifppjgieaa
