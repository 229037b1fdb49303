/-
  The walk of HelloInfos.
-/
import Derived.Test.YtgepekailoopeaaLaw22
import Derived.Test.YtgepekailoopeaaSees22
import Derived.Test.YtgepekailoopeaaInfPR
import Derived.Test.YtgepekailoopeaaInfTR
import Derived.Test.YtgepekailoopeaaInfN
namespace Go.Proofs.Ytgepekailoopeaa
open Go.RowKit
set_option linter.unusedVariables false
set_option linter.unusedSimpArgs false
set_option maxHeartbeats 8000000 in
set_option maxRecDepth 100000 in
theorem helloInfos_walk (cs0 : Array Value) (a1 : ByteArray) (A2 : Option Addr) (n2 c2 : Nat) (x0 : Sh.V (.agg (.pair (.int .u16) (.pair (.int .u64) (.pair (.int .u16) (.pair .str (.pair (.agg (.pair (.int .u32) (.pair (.int .u32) (.pair (.int .u32) .unit)))) .unit))))))) (x1 : Sh.V .str) (x2 : Sh.V (.slice (.int .u8) 1)) (w : World) (s0 : Sees w.heap (.agg (.pair (.int .u16) (.pair (.int .u64) (.pair (.int .u16) (.pair .str (.pair (.agg (.pair (.int .u32) (.pair (.int .u32) (.pair (.int .u32) .unit)))) .unit)))))) cs0.toList x0) (s1 : Sees w.heap .str [.string a1] x1) (s2 : Sees w.heap (.slice (.int .u8) 1) [.slice A2 n2 c2] x2) (y0 : Light (.agg (.pair (.int .u16) (.pair (.int .u64) (.pair (.int .u16) (.pair .str (.pair (.agg (.pair (.int .u32) (.pair (.int .u32) (.pair (.int .u32) .unit)))) .unit)))))) x0) (y1 : Light .str x1) (y2 : Light (.slice (.int .u8) 1) x2) :
    Calls Try.prog 9 #[.agg cs0, .string a1, .slice A2 n2 c2] w fun e w' => e = .returned (.bool true) ∧ Below w.heap.size w w' := by
  obtain ⟨kd, size, fl, nm, p, q, r, rfl, hk, hsz, hf, hn, hp, hq, hr⟩ := sees_info s0 y0
  obtain ⟨hn2, hr2, hc2, _, hw2⟩ := sees_ints s2
  obtain ⟨l, rfl⟩ : ∃ l : List Int, l = x2 := ⟨_, rfl⟩
  have hb2 : Byt l := kv_byt hw2
  have ly2 : n2 ≤ 140737488351232 := by have := y2.1; omega
  have R2 := hid (fun L => Rb.came (L := L) hr2)
  have ok : (⟨kd, size, fl, nm, p, q, r⟩ : If).Ok := ⟨hk, hsz, hf, hn, hp, hq, hr⟩
  have P1 : ∀ {w' : World} {L' : List Asr}, Sep w w' (fun _ => False) L' → Calls Try.prog 49 #[.agg #[.int .u16 kd, .int .u64 size, .int .u16 fl, .string nm, .int .u32 p, .int .u32 q, .int .u32 r]] w' (InfOut w (fun _ => False) (putE ⟨kd, size, fl, nm, p, q, r⟩) (putB ⟨kd, size, fl, nm, p, q, r⟩) L') := fun H => putinfo_calls H ok
  have P2 : ∀ {w' : World} {L' : List Asr}, Sep w w' (fun _ => False) L' → Calls Try.prog 50 #[.agg #[.int .u16 kd, .int .u64 size, .int .u16 fl, .string nm, .int .u32 p, .int .u32 q, .int .u32 r]] w' (InfOut w (fun _ => False) (putE ⟨kd, size, fl, nm, p, q, r⟩) (putB ⟨kd, size, fl, nm, p, q, r⟩) L') := fun H => rputinfo_calls H ok
  have P3 : ∀ {w' : World} {L' : List Asr}, Sep w w' (fun _ => False) L' → Calls Try.prog 51 #[.slice A2 n2 c2] w' (TiOut w (fun _ => False) (tiI l) (tiE l) L') := fun H => takeinfo_calls H (R2.out _) hb2 (by omega)
  have P4 : ∀ {w' : World} {L' : List Asr}, Sep w w' (fun _ => False) L' → Calls Try.prog 52 #[.slice A2 n2 c2] w' (TiOut w (fun _ => False) (tiI l) (tiE l) L') := fun H => rtakeinfo_calls H (R2.out _) hb2 hc2 (by omega)
  have P5 : ∀ {w' : World} {L' : List Asr}, Sep w w' (fun _ => False) L' → Calls Try.prog 55 #[.slice A2 n2 c2] w' fun e w2 => e = .returned (.tuple #[.string (tnS l), .int .i64 (tnE l)]) ∧ Sep w w2 (fun _ => False) L' := fun H => takename_calls H (R2.out _) hb2 (by omega)
  have P6 : ∀ {w' : World} {L' : List Asr}, Sep w w' (fun _ => False) L' → Calls Try.prog 56 #[.slice A2 n2 c2] w' fun e w2 => e = .returned (.tuple #[.string (tnS l), .int .i64 (tnE l)]) ∧ Sep w w2 (fun _ => False) L' := fun H => rtakename_calls H (R2.out _) hb2 hc2 (by omega)
  generalize putE ⟨kd, size, fl, nm, p, q, r⟩ = E1 at P1 P2
  generalize putB ⟨kd, size, fl, nm, p, q, r⟩ = B1 at P1 P2
  generalize tiI l = J at P3 P4
  generalize tiE l = E2 at P3 P4
  generalize tnS l = S3 at P5 P6
  generalize tnE l = E3 at P5 P6
  obtain ⟨j0, j1, j2, j3, j4, j5, j6⟩ := J
  unfold TiOut at P3 P4
  have HP1 := hid @P1
  have HP2 := hid @P2
  have HP3 := hid @P3
  have HP4 := hid @P4
  have HP5 := hid @P5
  have HP6 := hid @P6
  clear P1 P2 P3 P4 P5 P6 ok hk hsz hf hn hp hq hr s0 s1 s2 y0 y1 y2 hw2 hb2 hn2 hr2
  have HSa := (Sep.start w).alloc #[.int .u16 kd, .int .u64 size, .int .u16 fl, .string nm, .int .u32 p, .int .u32 q, .int .u32 r] 102
  go_enter Try.func9, Try.ntmps9
  go_wp2_with fail
  refine (HP1.out HSa).mono ?_
  rintro e w1 ⟨A3, c3, rfl, HS1⟩
  have a0 := HS1.up1.blk_at 0 rfl
  have a1' := HS1.up1.blk_at 1 rfl
  have a2 := HS1.up1.blk_at 2 rfl
  have a3 := HS1.up1.blk_at 3 rfl
  have a4 := HS1.up1.blk_at 4 rfl
  have a5 := HS1.up1.blk_at 5 rfl
  have a6 := HS1.up1.blk_at 6 rfl
  go_wp2_with fail
  refine (HP2.out HS1).mono ?_
  rintro e w2 ⟨A4, c4, rfl, HS2⟩
  clear a0 a1' a2 a3 a4 a5 a6
  have hs1 := run_str (P := Try.prog) (c := c3) (Rb.i1.read HS2) 23 9 5 Try.underlying23 Try.underlying5 Try.underlying9
  have hs2 := run_str (P := Try.prog) (c := c4) (Rb.i0.read HS2) 23 9 5 Try.underlying23 Try.underlying5 Try.underlying9
  generalize strOfNums B1 = sB at hs1 hs2
  go_wp2_with fail
  refine (HP3.out HS2).mono ?_
  rintro e w3 ⟨rfl, HS3⟩
  clear hs1 hs2
  have HS3a := HS3.alloc #[.int .u16 j0, .int .u64 j1, .int .u16 j2, .string j3, .int .u32 j4, .int .u32 j5, .int .u32 j6] 104
  go_wp2_with fail
  refine (HP4.out HS3a).mono ?_
  rintro e w4 ⟨rfl, HS4⟩
  have HS4a := HS4.alloc #[.int .u16 j0, .int .u64 j1, .int .u16 j2, .string j3, .int .u32 j4, .int .u32 j5, .int .u32 j6] 102
  have a0 := HS4a.up1.blk_at 0 rfl
  have a1' := HS4a.up1.blk_at 1 rfl
  have a2 := HS4a.up1.blk_at 2 rfl
  have a3 := HS4a.up1.blk_at 3 rfl
  have a4 := HS4a.up1.blk_at 4 rfl
  have a5 := HS4a.up1.blk_at 5 rfl
  have a6 := HS4a.up1.blk_at 6 rfl
  have hq := fun w => eqArr3 j4 j5 j6 j4 j5 j6 w
  go_wp2_with fail
  refine (putname_calls HS4a).mono ?_
  rintro e w5 ⟨A5, c5, rfl, HS5⟩
  clear a0 a1' a2 a3 a4 a5 a6 hq
  go_wp2_with fail
  refine (rputname_calls HS5).mono ?_
  rintro e w6 ⟨A6, c6, rfl, HS6⟩
  have hs1 := run_str (P := Try.prog) (c := c5) (Rb.i1.read HS6) 23 9 5 Try.underlying23 Try.underlying5 Try.underlying9
  have hs2 := run_str (P := Try.prog) (c := c6) (Rb.i0.read HS6) 23 9 5 Try.underlying23 Try.underlying5 Try.underlying9
  generalize strOfNums (nameB a1) = sN at hs1 hs2
  go_wp2_with fail
  refine (HP5.out HS6).mono ?_
  rintro e w7 ⟨rfl, HS7⟩
  clear hs1 hs2
  go_wp2_with fail
  refine (HP6.out HS7).mono ?_
  rintro e w8 ⟨rfl, HS8⟩
  go_wp2_with fail
  refine (wakes_calls HS8).mono ?_
  rintro e w9 ⟨rfl, HS9⟩
  go_wp2
  go_ret
  exact ⟨rfl, HS9.below⟩
end Go.Proofs.Ytgepekailoopeaa
