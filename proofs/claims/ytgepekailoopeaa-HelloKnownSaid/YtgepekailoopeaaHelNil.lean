/-
  hello.Take, Greeted, TakeFlags of a tape that is none.
-/
import Derived.Test.YtgepekailoopeaaLaw22
import Derived.Test.YtgepekailoopeaaOrdN
namespace Go.Proofs.Ytgepekailoopeaa
open Go.RowKit
set_option linter.unusedVariables false
set_option linter.unusedSimpArgs false
section
variable {w0 w : World} {O : Nat → Prop} {L : List Asr}
theorem hother_nil {a : Nat} {magic : Int} (ha : a ≤ 8) (HS : Sep w0 w O L) :
    Calls Try.prog 73 #[.pointer none, .int .i64 a, .int .u64 magic] w fun e w' => e = .returned (.bool false) ∧ w = w' := by
  have y : IntKind.i64.wrap ((a : Int) + 8) = a + 8 := by rw [IntKind.wrap_i64]; omega
  go_enter Try.func73, Try.ntmps73
  go_wp2_with fail
  refine (peek_nil _ _).mono ?_
  rintro e w1 ⟨rfl, rfl⟩
  go_wp2
  go_ret
  exact ⟨rfl, rfl⟩
set_option maxHeartbeats 2000000 in
theorem htake_nil {magic : Int} {kc : Nat} {As : Option Addr} (HS : Sep w0 w O (own 3 1 As 2 kc (iv [4, 4]) :: L)) :
    Calls Try.prog 65 #[.pointer none, .int .u64 magic, .slice As 2 kc] w fun e w' => e = .returned (.tuple #[.slice none 0 0, .slice none 0 0, .int .i64 0]) ∧ Sep w0 w' O L := by
  obtain ⟨i0, hi0, hz0, hz1, hz2⟩ := info_parts info_int
  have HL := HS.lit #[.int .i64 8] 3 1 1 rfl (by decide)
  go_enter Try.func65, Try.ntmps65
  go_wp2_with fail
  refine (hother_nil (a := 0) (by decide) HS).mono ?_
  rintro e w1 ⟨rfl, rfl⟩
  go_upto_region 4 with (first
    | (at_builtin; go_loud (refine wpList_append_sep rfl (.tmp 19) (.tmp 20) 154 rfl 3 i0 _ 1 8 Try.underlying154 hi0 hz0 hz1 hz2 rfl (by decide) rfl HL rfl HL.rd1 (kv_one .i64 [4, 4]) (by decide) (by decide) rfl rfl ?_); intro A2 c2 w2 HS2 hsz2)
    | (go_at_call 74; refine (numbers_nil (b := false) (ss := [8, 4, 4]) HS2 ⟨Rb.i0, by decide, by decide⟩).mono ?_; rintro e w3 ⟨rfl, rfl⟩))
  go_wp2
  go_ret3
  exact ⟨rfl, HS2.drop.drop⟩
set_option maxHeartbeats 2000000 in
theorem hTake_nil (HS : Sep w0 w O L) :
    Calls Try.prog 19 #[.pointer none] w fun e w' => e = .returned (.tuple #[.agg #[.int .u32 0, .slice none 0 0], .bool false, .int .i64 0]) ∧ Sep w0 w' O L := by
  have q := fun w a n c n' c' => Lib.run_eql_slice_nil (P := Try.prog) w 131 58 a n c n' c' Try.underlying131
  have HSa := HS.alloc #[.int .u32 0, .slice none 0 0] 31
  have HL : Sep w0 _ O (own 3 1 (some ⟨w.heap.size + 1, 0, none⟩) 2 2 (iv [4, 4]) :: blk w.heap.size 31 #[.int .u32 0, .slice none 0 0] :: L) := HSa.litB #[.int .i64 4, .int .i64 4] 3 1 2 rfl (by decide) (B := w.heap.size + 1) (by simp)
  go_enter Try.func19, Try.ntmps19
  go_wp2_with fail
  refine (htake_nil HL).mono ?_
  rintro e w1 ⟨rfl, HS1⟩
  have cz0 := HS1.blk_at 0 rfl
  have cz1 := HS1.blk_at 1 rfl
  have fz0 := HS1.blk_frozen 0
  have fz1 := HS1.blk_frozen 1
  have HR := HS1.blk_set2 (.int .u32 0) (.slice none 0 0)
  go_wp2
  (try simp only [Exit.inBlock, Exit.then])
  refine bodyPost_ret (results_row2 rfl _ _ _ _ _ _ _ rfl HR.blk_heap Try.underlying31 rfl info_hraw) rfl ?_
  exact ⟨rfl, HR.drop⟩
set_option maxHeartbeats 2000000 in
theorem greeted_nil (HS : Sep w0 w O L) :
    Calls Try.prog 32 #[.pointer none] w fun e w' => e = .returned (.tuple #[.int .u16 0, .bool false, .int .i64 0]) ∧ Sep w0 w' O L := by
  go_enter Try.func32, Try.ntmps32
  go_wp2_with fail
  refine (hother_nil (a := 0) (by decide) HS).mono ?_
  rintro e w1 ⟨rfl, rfl⟩
  go_wp2_with fail
  refine (hother_nil (a := 8) (by decide) HS).mono ?_
  rintro e w1 ⟨rfl, rfl⟩
  have HL := HS.lit #[.int .i64 8, .int .i64 8, .int .i64 2] 3 1 3 rfl (by decide)
  go_wp2_with fail
  refine (numbers_nil (ss := [8, 8, 2]) HL ⟨Rb.i0, by decide, by decide⟩).mono ?_
  rintro e w2 ⟨rfl, rfl⟩
  go_wp2
  go_ret3
  exact ⟨rfl, HL.drop⟩
theorem takeflags_nil (HS : Sep w0 w O L) :
    Calls Try.prog 34 #[.pointer none] w fun e w' => e = .returned (.tuple #[.int .u32 0, .bool false]) ∧ Sep w0 w' O L := by
  have HL := HS.lit #[.int .i64 4] 3 1 1 rfl (by decide)
  go_enter Try.func34, Try.ntmps34
  go_wp2_with fail
  refine (numbers_nil (ss := [4]) HL ⟨Rb.i0, by decide, by decide⟩).mono ?_
  rintro e w2 ⟨rfl, rfl⟩
  go_wp2
  go_ret2
  exact ⟨rfl, HL.drop⟩
end
end Go.Proofs.Ytgepekailoopeaa
