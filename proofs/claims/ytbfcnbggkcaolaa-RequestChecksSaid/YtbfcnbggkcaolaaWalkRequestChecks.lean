/-
  The walk of RequestChecks.
-/
import Derived.Test.YtbfcnbggkcaolaaLaw23
import Derived.Test.YtbfcnbggkcaolaaRef23Chk
import Derived.Test.YtbfcnbggkcaolaaReqSees
namespace Go.Proofs.Ytbfcnbggkcaolaa
open Go.RowKit
set_option linter.unusedVariables false
set_option linter.unusedSimpArgs false

set_option maxHeartbeats 2000000 in
theorem requestChecks_walk (cs0 : Array Value) (cs1 : Array Value) (x0 : Sh.V (.agg (.pair (.int .i64) (.pair (.int .i64) (.pair (.int .u64) (.pair (.int .u64) (.pair (.int .u32) (.pair (.slice (.int .u8) 1) .unit)))))))) (x1 : Sh.V (.agg (.pair (.int .u64) (.pair .str (.pair (.int .u64) (.pair (.int .u64) (.pair .bool (.pair (.int .u64) .unit)))))))) (w : World) (s0 : Sees w.heap (.agg (.pair (.int .i64) (.pair (.int .i64) (.pair (.int .u64) (.pair (.int .u64) (.pair (.int .u32) (.pair (.slice (.int .u8) 1) .unit))))))) cs0.toList x0) (s1 : Sees w.heap (.agg (.pair (.int .u64) (.pair .str (.pair (.int .u64) (.pair (.int .u64) (.pair .bool (.pair (.int .u64) .unit))))))) cs1.toList x1) (y0 : Light (.agg (.pair (.int .i64) (.pair (.int .i64) (.pair (.int .u64) (.pair (.int .u64) (.pair (.int .u32) (.pair (.slice (.int .u8) 1) .unit))))))) x0) (y1 : Light (.agg (.pair (.int .u64) (.pair .str (.pair (.int .u64) (.pair (.int .u64) (.pair .bool (.pair (.int .u64) .unit))))))) x1) :
    Calls Try.prog 3 #[.agg cs0, .agg cs1] w fun e w' => e = .returned (.bool true) ∧ Below w.heap.size w w' := by
  obtain ⟨fl, kd, ck, off, len, A, c, d, rfl, ⟨f0, f1⟩, ⟨k0, k1⟩, ⟨ck0, ck1⟩, ⟨o0, o1⟩, ⟨l0, l1⟩, hr0, hc0, hb, hd⟩ := sees_req s0 y0
  obtain ⟨id, nm, size, root, fixed, orig, rfl, z0, z1⟩ := sees_vol s1
  generalize hn : d.length = n at *
  clear hn
  have HS := ((Sep.start w).alloc #[.int .i64 fl, .int .i64 kd, .int .u64 ck, .int .u64 off, .int .u32 len, .slice A n c] 26).allocB #[.int .u64 id, .string nm, .int .u64 size, .int .u64 root, .bool fixed, .int .u64 orig] 28 (B := w.heap.size + 1) (by simp)
  clear s0 y0 s1 y1 hr0
  have a0 := HS.up1.blk_at 1 rfl
  have hg : (kd == 1) = true ∨ (kd == 1) = false ∧ (kd == 4) = true ∨ (kd == 1) = false ∧ (kd == 4) = false := by cases (kd == 1) <;> cases (kd == 4) <;> simp
  have hch : chg kd = (kd == 1 || kd == 4 || kd == 6) := rfl
  have HCH := hid hch
  clear hch
  have hg' : ((kd == 1) = true ∧ chg kd = true) ∨ ((kd == 1) = false ∧ (kd == 4) = true ∧ chg kd = true) ∨ ((kd == 1) = false ∧ (kd == 4) = false ∧ chg kd = (kd == 6)) := by
    rcases hg with g1 | ⟨g1, g2⟩ | ⟨g1, g2⟩
    · exact .inl ⟨g1, by rw [HCH.out, g1]; rfl⟩
    · exact .inr (.inl ⟨g1, g2, by rw [HCH.out, g1, g2]; rfl⟩)
    · exact .inr (.inr ⟨g1, g2, by rw [HCH.out, g1, g2]; rfl⟩)
  clear hg HCH
  rcases hg' with ⟨g1, g3⟩ | ⟨g1, g2, g3⟩ | ⟨g1, g2, g3⟩
  all_goals
    go_enter Try.func3, Try.ntmps3
    go_wp2_with fail
    go_region_held3 (fun w' => w'.cell? ⟨w.heap.size, 0, none⟩ = some (.int .i64 fl) ∧ w'.cell? ⟨w.heap.size, 1, none⟩ = some (.int .i64 kd) ∧ w'.cell? ⟨w.heap.size, 2, none⟩ = some (.int .u64 ck) ∧ w'.cell? ⟨w.heap.size, 3, none⟩ = some (.int .u64 off) ∧ w'.cell? ⟨w.heap.size, 4, none⟩ = some (.int .u32 len) ∧ w'.cell? ⟨w.heap.size, 5, none⟩ = some (.slice A n c) ∧ w'.cell? ⟨w.heap.size + 1, 0, none⟩ = some (.int .u64 id) ∧ w'.cell? ⟨w.heap.size + 1, 1, none⟩ = some (.string nm) ∧ w'.cell? ⟨w.heap.size + 1, 2, none⟩ = some (.int .u64 size) ∧ w'.cell? ⟨w.heap.size + 1, 3, none⟩ = some (.int .u64 root) ∧ w'.cell? ⟨w.heap.size + 1, 4, none⟩ = some (.bool fixed) ∧ w'.cell? ⟨w.heap.size + 1, 5, none⟩ = some (.int .u64 orig)) (first | (exact ⟨HS4.up1.blk_at 0 rfl, HS4.up1.blk_at 1 rfl, HS4.up1.blk_at 2 rfl, HS4.up1.blk_at 3 rfl, HS4.up1.blk_at 4 rfl, HS4.up1.blk_at 5 rfl, HS4.blk_at 0 rfl, HS4.blk_at 1 rfl, HS4.blk_at 2 rfl, HS4.blk_at 3 rfl, HS4.blk_at 4 rfl, HS4.blk_at 5 rfl⟩) | (exact ⟨HS3.up1.blk_at 0 rfl, HS3.up1.blk_at 1 rfl, HS3.up1.blk_at 2 rfl, HS3.up1.blk_at 3 rfl, HS3.up1.blk_at 4 rfl, HS3.up1.blk_at 5 rfl, HS3.blk_at 0 rfl, HS3.blk_at 1 rfl, HS3.blk_at 2 rfl, HS3.blk_at 3 rfl, HS3.blk_at 4 rfl, HS3.blk_at 5 rfl⟩) | (exact ⟨HS2.up1.blk_at 0 rfl, HS2.up1.blk_at 1 rfl, HS2.up1.blk_at 2 rfl, HS2.up1.blk_at 3 rfl, HS2.up1.blk_at 4 rfl, HS2.up1.blk_at 5 rfl, HS2.blk_at 0 rfl, HS2.blk_at 1 rfl, HS2.blk_at 2 rfl, HS2.blk_at 3 rfl, HS2.blk_at 4 rfl, HS2.blk_at 5 rfl⟩) | (exact ⟨HS1.up1.blk_at 0 rfl, HS1.up1.blk_at 1 rfl, HS1.up1.blk_at 2 rfl, HS1.up1.blk_at 3 rfl, HS1.up1.blk_at 4 rfl, HS1.up1.blk_at 5 rfl, HS1.blk_at 0 rfl, HS1.blk_at 1 rfl, HS1.blk_at 2 rfl, HS1.blk_at 3 rfl, HS1.blk_at 4 rfl, HS1.blk_at 5 rfl⟩) | (exact ⟨HS.up1.blk_at 0 rfl, HS.up1.blk_at 1 rfl, HS.up1.blk_at 2 rfl, HS.up1.blk_at 3 rfl, HS.up1.blk_at 4 rfl, HS.up1.blk_at 5 rfl, HS.blk_at 0 rfl, HS.blk_at 1 rfl, HS.blk_at 2 rfl, HS.blk_at 3 rfl, HS.blk_at 4 rfl, HS.blk_at 5 rfl⟩))
      (first
        | (go_at_call 10; refine (check_calls HS.drew f0 f1 l0 l1 o0 o1 z0 z1).mono ?_; rintro e w1 ⟨rfl, HS1⟩)
        | (go_at_call 11; refine (rcheck_calls HS1 l0 l1 o0 o1 z0 z1).mono ?_; rintro e w2 ⟨rfl, HS2⟩)
        | (go_at_call 12; refine (changes_calls kd _).mono ?_; rintro e w3 ⟨rfl, rfl⟩)
        | (go_at_call 13; refine (wakes_calls HS2).mono ?_; rintro e w4 ⟨rfl, HS4⟩))
    all_goals
      go_wp2
      go_ret
      exact ⟨rfl, HS4.below⟩
end Go.Proofs.Ytbfcnbggkcaolaa
