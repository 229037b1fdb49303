/-
  request.Take and TakeReply of a tape that is none.
-/
import Derived.Test.YtbfcnbggkcaolaaReqTakeR
import Derived.Test.YtbfcnbggkcaolaaOrdN
namespace Go.Proofs.Ytbfcnbggkcaolaa
open Go.RowKit
set_option linter.unusedVariables false
set_option linter.unusedSimpArgs false
section
variable {w0 w : World} {O : Nat → Prop} {L : List Asr}

theorem other_nil {magic : Int} (HS : Sep w0 w O L) :
    Calls Try.prog 38 #[.pointer none, .int .u32 magic] w fun e w' => e = .returned (.bool false) ∧ Sep w0 w' O L := by
  have HL := HS.lit #[.int .i64 4] 3 1 1 rfl (by decide)
  go_enter Try.func38, Try.ntmps38
  go_wp2_with fail
  refine (numbers_nil (ss := [4]) HL ⟨Rb.i0, by decide, by decide⟩).mono ?_
  rintro e w1 ⟨rfl, rfl⟩
  go_wp2
  go_ret
  exact ⟨rfl, HL.drop⟩

set_option maxHeartbeats 1000000 in
theorem reqtake_nil (HS : Sep w0 w O L) :
    Calls Try.prog 18 #[.pointer none] w fun e w' => e = .returned (.tuple #[reqV 0 0 0 0 0 (.slice none 0 0), .bool false, .int .i64 0]) ∧ Sep w0 w' O L := by
  have HSa := HS.alloc #[.int .i64 0, .int .i64 0, .int .u64 0, .int .u64 0, .int .u32 0, .slice none 0 0] 26
  go_enter Try.func18, Try.ntmps18
  go_wp2_with fail
  refine (other_nil HSa).mono ?_
  rintro e w1 ⟨rfl, HS1⟩
  go_wp2_with fail
  have HS2 := HS1.lit #[.int .i64 4, .int .i64 2, .int .i64 2, .int .i64 8, .int .i64 8, .int .i64 4] 3 1 6 rfl (by decide)
  refine (numbers_nil (ss := [4, 2, 2, 8, 8, 4]) HS2 ⟨Rb.i0, by decide, by decide⟩).mono ?_
  rintro e w2 ⟨rfl, rfl⟩
  have c0 := HS2.up1.blk_at 0 rfl
  have c1 := HS2.up1.blk_at 1 rfl
  have c2' := HS2.up1.blk_at 2 rfl
  have c3 := HS2.up1.blk_at 3 rfl
  have c4 := HS2.up1.blk_at 4 rfl
  have c5 := HS2.up1.blk_at 5 rfl
  have f0 := HS2.up1.blk_frozen 0
  have f1 := HS2.up1.blk_frozen 1
  have f2 := HS2.up1.blk_frozen 2
  have f3 := HS2.up1.blk_frozen 3
  have f4 := HS2.up1.blk_frozen 4
  have f5 := HS2.up1.blk_frozen 5
  go_wp2
  have HR := HS2.up1.blk_set6 (.int .i64 0) (.int .i64 0) (.int .u64 0) (.int .u64 0) (.int .u32 0) (.slice none 0 0)
  (try simp only [Exit.inBlock, Exit.then])
  refine bodyPost_ret (results_row2 rfl _ _ _ _ _ _ _ rfl HR.blk_heap Try.underlying26 rfl info_req) rfl ?_
  exact ⟨rfl, HR.drop.drop⟩

set_option maxHeartbeats 1000000 in
theorem reptake_nil {m : Nat} (hm : m ≤ 4096) (HS : Sep w0 w O L) :
    Calls Try.prog 21 #[.pointer none, .int .i64 m] w fun e w' => e = .returned (.tuple #[repV 0 0 (.slice none 0 0), .bool false, .int .i64 0]) ∧ Sep w0 w' O L := by
  have HSa := HS.alloc #[.int .u32 0, .int .u64 0, .slice none 0 0] 51
  have k0 : ¬ (m : Int) < 0 := by omega
  have k1 : ¬ 4096 < (m : Int) := by omega
  go_enter Try.func21, Try.ntmps21
  go_wp2_with fail
  refine (other_nil HSa).mono ?_
  rintro e w1 ⟨rfl, HS1⟩
  go_wp2_with fail
  have HS2 := HS1.lit #[.int .i64 4, .int .i64 4, .int .i64 8] 3 1 3 rfl (by decide)
  refine (numbers_nil (ss := [4, 4, 8]) HS2 ⟨Rb.i0, by decide, by decide⟩).mono ?_
  rintro e w2 ⟨rfl, rfl⟩
  have c0 := HS2.up1.blk_at 0 rfl
  have c1 := HS2.up1.blk_at 1 rfl
  have c2' := HS2.up1.blk_at 2 rfl
  have f0 := HS2.up1.blk_frozen 0
  have f1 := HS2.up1.blk_frozen 1
  have f2 := HS2.up1.blk_frozen 2
  go_wp2
  have HR := HS2.up1.blk_set3 (.int .u32 0) (.int .u64 0) (.slice none 0 0)
  (try simp only [Exit.inBlock, Exit.then])
  refine bodyPost_ret (results_row2 rfl _ _ _ _ _ _ _ rfl HR.blk_heap Try.underlying51 rfl info_rep) rfl ?_
  exact ⟨rfl, HR.drop.drop⟩
end
end Go.Proofs.Ytbfcnbggkcaolaa
