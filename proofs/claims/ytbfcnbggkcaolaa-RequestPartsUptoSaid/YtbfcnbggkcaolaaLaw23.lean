/-
  The awake test of layer 23, and its tape.
-/
import Derived.Test.YtbfcnbggkcaolaaReqCheck
import Derived.Test.YtbfcnbggkcaolaaReqPut
import Derived.Test.YtbfcnbggkcaolaaReqTakeR
import Derived.Test.YtbfcnbggkcaolaaStr
import Derived.Test.YtbfcnbggkcaolaaMark
namespace Go.Proofs.Ytbfcnbggkcaolaa
open Go.RowKit
set_option linter.unusedVariables false
set_option linter.unusedSimpArgs false
section
variable {w0 w : World} {O : Nat → Prop} {L : List Asr}

theorem ltape_calls {A : Option Addr} {n c : Nat} {l : List Int} (HS : Sep w0 w O L) (hr : Rb w0 O L 1 A n (by8 l)) (hl : l.length ≤ 140737488355328) :
    Calls Try.prog 17 #[.slice A n c] w fun e w' => ∃ g, e = .returned (.pointer (some ⟨g, 0, none⟩)) ∧ Sep w0 w' O (tape g l :: L) := by
  go_enter Try.func17, Try.ntmps17
  go_wp2_with fail
  refine (new_calls HS).mono ?_
  rintro e w1 ⟨g, rfl, HS1⟩
  go_wp2_with fail
  refine (push_calls (m := l) HS1 hr (by have := hr.klen HS; simp only [List.length_nil, List.nil_append]; omega)).mono ?_
  rintro e w2 ⟨rfl, HS2⟩
  go_wp2
  go_ret
  exact ⟨g, rfl, HS2⟩

set_option maxHeartbeats 2000000 in
theorem wakes_calls (HS : Sep w0 w O L) : Calls Try.prog 13 #[] w fun e w' => e = .returned (.bool true) ∧ Sep w0 w' O L := by
  have kc := const_bytes
  have kc2 := const_bytes2
  go_enter Try.func13, Try.ntmps13
  go_wp2_with fail
  refine (reqput_calls (fl := 0) (kd := 1) (ck := 7) (off := 512) (len := 2) (d := [97, 98]) (HS.mark #[.int .u8 97, .int .u8 98] 5 (2, 3) 2 rfl rfl) Rb.r0 (by decide) (by decide) (by decide) (by decide) (by decide) (by decide) (by decide)).mono ?_
  rintro e w1 ⟨A1, c1, rfl, HS1⟩
  rw [show reqOut 0 1 7 512 2 [97, 98] = [37, 96, 149, 19, 0, 0, 0, 1, 0, 0, 0, 0, 0, 0, 0, 7, 0, 0, 0, 0, 0, 0, 2, 0, 0, 0, 0, 2, 97, 98] from by decide] at HS1 ⊢
  rw [show reqErr 0 1 2 [97, 98] = 0 from by decide]
  obtain ⟨g1, rfl⟩ := HS1.own_some (by decide)
  go_wp2_with fail
  refine (ltape_calls HS1 Rb.i0 (by decide)).mono ?_
  rintro e w2 ⟨g2, rfl, HS2⟩
  go_wp2_with fail
  refine (reqtake_calls HS2 (by decide) (by decide)).mono ?_
  rintro e w3 ⟨A3, c3, rfl, HS3⟩
  rw [show takeReq [37, 96, 149, 19, 0, 0, 0, 1, 0, 0, 0, 0, 0, 0, 0, 7, 0, 0, 0, 0, 0, 0, 2, 0, 0, 0, 0, 2, 97, 98] = ⟨true, 0, 0, 1, 7, 512, 2, [97, 98], []⟩ from by kernel_rfl] at HS3 ⊢
  go_wp2_with fail
  have HS4 := (HS3.alloc #[.int .i64 0, .int .i64 1, .int .u64 7, .int .u64 512, .int .u32 2, .slice A3 2 c3] 26).mark #[.int .u8 97, .int .u8 98] 5 (2, 3) 2 rfl (B := w3.heap.size + 1) (by simp)
  refine (repput_calls (er := 0) (ck := 7) (d := [97, 98]) HS4 Rb.r0 (by decide) (by decide) (by decide) (by decide)).mono ?_
  rintro e w5 ⟨A5, c5, rfl, HS5⟩
  rw [show repOut 0 7 [97, 98] = [103, 68, 102, 152, 0, 0, 0, 0, 0, 0, 0, 0, 0, 0, 0, 7, 97, 98] from by decide] at HS5 ⊢
  rw [show repErr 0 [97, 98] = 0 from by decide]
  obtain ⟨g5, rfl⟩ := HS5.own_some (by decide)
  obtain ⟨g6, hg6⟩ : ∃ g6, g6 = w3.heap.size := ⟨_, rfl⟩
  rw [← hg6] at HS5 ⊢
  clear hg6
  have HS6 : Sep w0 w5 O (blk g6 26 #[.int .i64 0, .int .i64 1, .int .u64 7, .int .u64 512, .int .u32 2, .slice A3 2 c3] :: ro 1 A3 2 (by8 [97, 98]) :: own 5 1 (some ⟨g1, 0, none⟩) 30 c1 (by8 [37, 96, 149, 19, 0, 0, 0, 1, 0, 0, 0, 0, 0, 0, 0, 7, 0, 0, 0, 0, 0, 0, 2, 0, 0, 0, 0, 2, 97, 98]) :: own 5 1 (some ⟨g5, 0, none⟩) 18 c5 (by8 [103, 68, 102, 152, 0, 0, 0, 0, 0, 0, 0, 0, 0, 0, 0, 7, 97, 98]) :: L) := (HS5.sel 7 [2, 3, 5, 0])
  clear HS1 HS2 HS3 HS4 HS5
  have b0 := HS6.up2.kcell (j := 0) (by decide) rfl
  have d0 := HS6.up3.kcell (j := 0) (by decide) rfl
  have r0 := HS6.blk_at 0 rfl
  have r1 := HS6.blk_at 1 rfl
  have r2 := HS6.blk_at 2 rfl
  have r3 := HS6.blk_at 3 rfl
  have r4 := HS6.blk_at 4 rfl
  have r5 := HS6.blk_at 5 rfl
  have hs := run_str (P := Try.prog) (c := c3) (Rb.r0.read HS6.up1) 24 9 5 Try.underlying24 Try.underlying5 Try.underlying9
  rw [show strOfNums [97, 98] = ⟨#[97, 98]⟩ from by decide] at hs
  simp [kv] at b0 d0
  go_wp2_with fail
  refine (check_calls HS6 (by decide) (by decide) (by decide) (by decide) (by decide) (by decide) (by decide) (by decide)).mono ?_
  rintro e w7 ⟨rfl, HS7⟩
  rw [show reqCheck 0 1 512 2 514 false = 0 from by decide]
  have r0 := HS7.blk_at 0 rfl
  have r1 := HS7.blk_at 1 rfl
  have r2 := HS7.blk_at 2 rfl
  have r3 := HS7.blk_at 3 rfl
  have r4 := HS7.blk_at 4 rfl
  have r5 := HS7.blk_at 5 rfl
  go_wp2_with fail
  refine (check_calls HS7 (by decide) (by decide) (by decide) (by decide) (by decide) (by decide) (by decide) (by decide)).mono ?_
  rintro e w8 ⟨rfl, HS8⟩
  rw [show reqCheck 0 1 512 2 513 false = 31 from by decide]
  go_wp2
  go_ret
  exact ⟨rfl, HS8.dropN 4⟩
end
end Go.Proofs.Ytbfcnbggkcaolaa
