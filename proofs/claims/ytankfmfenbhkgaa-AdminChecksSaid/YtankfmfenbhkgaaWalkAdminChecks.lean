/-
  The walk of AdminChecks.
-/
import Derived.Test.YtankfmfenbhkgaaLaw24
import Derived.Test.YtankfmfenbhkgaaAdmSees
import Derived.Deep.RegionHeld3
namespace Go.Proofs.Ytankfmfenbhkgaa
open Go.RowKit
set_option linter.unusedVariables false
set_option linter.unusedSimpArgs false

set_option maxHeartbeats 2000000 in
theorem adminChecks_walk (cs0 : Array Value) (x0 : Sh.V (.agg (.pair (.int .i64) (.pair (.int .u64) (.pair .str (.pair .str (.pair (.int .u64) (.pair .bool .unit)))))))) (w : World) (s0 : Sees w.heap (.agg (.pair (.int .i64) (.pair (.int .u64) (.pair .str (.pair .str (.pair (.int .u64) (.pair .bool .unit))))))) cs0.toList x0) (y0 : Light (.agg (.pair (.int .i64) (.pair (.int .u64) (.pair .str (.pair .str (.pair (.int .u64) (.pair .bool .unit))))))) x0) :
    Calls Try.prog 5 #[.agg cs0] w fun e w' => e = .returned (.bool true) ∧ Below w.heap.size w w' := by
  obtain ⟨kd, ck, nm, au, size, fixed, rfl, ⟨k0, k1⟩, ⟨ck0, ck1⟩, ⟨z0, z1⟩, hn, ha⟩ := sees_adm s0 y0
  have HS := (Sep.start w).alloc #[.int .i64 kd, .int .u64 ck, .string nm, .string au, .int .u64 size, .bool fixed] 24
  clear s0 y0
  have hb : -9223372036854775808 ≤ adChk kd (!nm.toList.isEmpty) (!au.toList.isEmpty) (size != 0) fixed ∧ adChk kd (!nm.toList.isEmpty) (!au.toList.isEmpty) (size != 0) fixed < 9223372036854775808 := by
    unfold adChk
    repeat' split
    all_goals omega
  have HC := @radchk_calls
  have HD := @adchk_calls
  go_enter Try.func5, Try.ntmps5
  go_wp2_with fail
  go_region_held3 (fun w' => w'.cell? ⟨w.heap.size, 0, none⟩ = some (.int .i64 kd) ∧ w'.cell? ⟨w.heap.size, 1, none⟩ = some (.int .u64 ck) ∧ w'.cell? ⟨w.heap.size, 2, none⟩ = some (.string nm) ∧ w'.cell? ⟨w.heap.size, 3, none⟩ = some (.string au) ∧ w'.cell? ⟨w.heap.size, 4, none⟩ = some (.int .u64 size) ∧ w'.cell? ⟨w.heap.size, 5, none⟩ = some (.bool fixed))
    (first | (exact ⟨HS4.blk_at 0 rfl, HS4.blk_at 1 rfl, HS4.blk_at 2 rfl, HS4.blk_at 3 rfl, HS4.blk_at 4 rfl, HS4.blk_at 5 rfl⟩) | (exact ⟨HS2.blk_at 0 rfl, HS2.blk_at 1 rfl, HS2.blk_at 2 rfl, HS2.blk_at 3 rfl, HS2.blk_at 4 rfl, HS2.blk_at 5 rfl⟩) | (exact ⟨HS1.blk_at 0 rfl, HS1.blk_at 1 rfl, HS1.blk_at 2 rfl, HS1.blk_at 3 rfl, HS1.blk_at 4 rfl, HS1.blk_at 5 rfl⟩) | (exact ⟨HS.drew.blk_at 0 rfl, HS.drew.blk_at 1 rfl, HS.drew.blk_at 2 rfl, HS.drew.blk_at 3 rfl, HS.drew.blk_at 4 rfl, HS.drew.blk_at 5 rfl⟩))
    (first
      | (go_at_call 21; refine (adchk_calls HS.drew).mono ?_; rintro e w1 ⟨rfl, HS1⟩)
      | (go_at_call 22; refine (radchk_calls HS1).mono ?_; rintro e w2 ⟨rfl, HS2⟩)
      | (go_at_call 15; refine (wakes_calls HS2).mono ?_; rintro e w4 ⟨rfl, HS4⟩))
  all_goals
    go_wp2
    go_ret
    exact ⟨rfl, HS4.below⟩
end Go.Proofs.Ytankfmfenbhkgaa
