/-
  Contracts of cisternref24.num and flag.
-/
import Derived.Test.YtankfmfenbhkgaaRef22
import Derived.Test.YtankfmfenbhkgaaAdmPut
namespace Go.Proofs.Ytankfmfenbhkgaa
open Go.RowKit
set_option linter.unusedVariables false
set_option linter.unusedSimpArgs false
section
variable {w0 w : World} {O : Nat → Prop} {L : List Asr}

theorem rnumapp_calls {A : Option Addr} {n c s : Nat} {l : List Int} {x : Int} (HS : Sep w0 w O (own 5 1 A n c (by8 l) :: L)) (hn : n ≤ 1000000) (h1 : 1 ≤ s) (h8 : s ≤ 8) (x0 : 0 ≤ x) (x1 : x < 18446744073709551616) :
    Calls Try.prog 27 #[.slice A n c, .int .u64 x, .int .i64 s] w fun e w' => ∃ A' c', e = .returned (.slice A' (n + s) c') ∧ Sep w0 w' O (own 5 1 A' (n + s) c' (by8 (l ++ be s x)) :: L) := by
  obtain ⟨i0, hi0, hz0, hz1, hz2⟩ := info_parts info_u8
  go_enter Try.func27, Try.ntmps27
  go_wp2_with fail
  refine (rbytes_calls HS h1 (by omega) x0 x1).mono ?_
  rintro e w1 ⟨B, cb, rfl, HB⟩
  go_wp2_with (at_builtin; go_loud (refine wpList_append_sep rfl (.tmp 7) (.tmp 10) 25 rfl 5 i0 _ 1 1 Try.underlying25 hi0 hz0 hz1 hz2 rfl (by decide) rfl HB.up1 rfl HB.up1.rd1 (kv_one _ _) (by simp only [maxLen]; omega) (by omega) rfl (by8_append _ _) ?_); intro A2 c2 w2 HC hsz)
  go_ret
  exact ⟨A2, c2, rfl, HC.up1.drop⟩

theorem rflag_calls {A : Option Addr} {n c : Nat} {l : List Int} {b : Bool} (HS : Sep w0 w O (own 5 1 A n c (by8 l) :: L)) (hn : n ≤ 1000000) :
    Calls Try.prog 26 #[.slice A n c, .bool b] w fun e w' => ∃ A' c', e = .returned (.slice A' (n + 1) c') ∧ Sep w0 w' O (own 5 1 A' (n + 1) c' (by8 (l ++ [bitV b])) :: L) := by
  obtain ⟨i0, hi0, hz0, hz1, hz2⟩ := info_parts info_u8
  cases b
  · have HB := (HS.lit #[.int .u8 0] 5 1 1 rfl (by decide)).up1
    have hrd : Rd _ _ 1 _ 1 (by8 [0]) := HB.rd1
    go_enter Try.func26, Try.ntmps26
    go_wp2_with (at_builtin; go_loud (refine wpList_append_sep rfl (.tmp 9) (.tmp 10) 25 rfl 5 i0 _ 1 1 Try.underlying25 hi0 hz0 hz1 hz2 rfl (by decide) rfl HB rfl hrd (kv_one _ _) (by simp only [maxLen]; omega) (by omega) rfl (by8_append _ _) ?_); intro A2 c2 w2 HC hsz)
    go_ret
    exact ⟨A2, c2, rfl, HC.up1.drop⟩
  · have HB := (HS.lit #[.int .u8 1] 5 1 1 rfl (by decide)).up1
    have hrd : Rd _ _ 1 _ 1 (by8 [1]) := HB.rd1
    go_enter Try.func26, Try.ntmps26
    go_wp2_with (at_builtin; go_loud (refine wpList_append_sep rfl (.tmp 6) (.tmp 7) 25 rfl 5 i0 _ 1 1 Try.underlying25 hi0 hz0 hz1 hz2 rfl (by decide) rfl HB rfl hrd (kv_one _ _) (by simp only [maxLen]; omega) (by omega) rfl (by8_append _ _) ?_); intro A2 c2 w2 HC hsz)
    go_ret
    exact ⟨A2, c2, rfl, HC.up1.drop⟩
end
end Go.Proofs.Ytankfmfenbhkgaa
