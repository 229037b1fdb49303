/-
  Contracts of cisternref23.Same and SameReply, of equals.
-/
import Derived.Test.YtbfcnbggkcaolaaReqCheck
import Derived.Test.YtbfcnbggkcaolaaReqPut
import Derived.Test.YtbfcnbggkcaolaaStr
namespace Go.Proofs.Ytbfcnbggkcaolaa
open Go.RowKit
set_option linter.unusedVariables false
set_option linter.unusedSimpArgs false

section
variable {w0 w : World} {O : Nat → Prop} {L : List Asr}

set_option maxHeartbeats 2000000 in
theorem rsame_true {fl kd ck off len : Int} {A B : Option Addr} {n c m b : Nat} {d : List Int} (HS : Sep w0 w O L) (hr : Rb w0 O L 1 A n (by8 d)) (hq : Rb w0 O L 1 B m (by8 d)) :
    Calls Try.prog 16 #[reqV fl kd ck off len (.slice A n c), reqV fl kd ck off len (.slice B m b)] w fun e w' => e = .returned (.bool true) ∧ Sep w0 w' O L := by
  have HSb := (HS.alloc #[.int .i64 fl, .int .i64 kd, .int .u64 ck, .int .u64 off, .int .u32 len, .slice A n c] 26).allocB #[.int .i64 fl, .int .i64 kd, .int .u64 ck, .int .u64 off, .int .u32 len, .slice B m b] 26 (B := w.heap.size + 1) (by simp)
  have h1 := run_str (P := Try.prog) (c := c) (hr.cons.cons.read HSb) 24 9 5 Try.underlying24 Try.underlying5 Try.underlying9
  have h2 := run_str (P := Try.prog) (c := b) (hq.cons.cons.read HSb) 24 9 5 Try.underlying24 Try.underlying5 Try.underlying9
  generalize strOfNums d = s at h1 h2
  clear hr hq
  go_enter Try.func16, Try.ntmps16
  go_wp2
  go_ret
  exact ⟨rfl, HSb.drop.drop⟩

set_option maxHeartbeats 2000000 in
theorem rsamer_true {er ck : Int} {A B : Option Addr} {n c m b : Nat} {d : List Int} (HS : Sep w0 w O L) (hr : Rb w0 O L 1 A n (by8 d)) (hq : Rb w0 O L 1 B m (by8 d)) :
    Calls Try.prog 25 #[repV er ck (.slice A n c), repV er ck (.slice B m b)] w fun e w' => e = .returned (.bool true) ∧ Sep w0 w' O L := by
  have HSb := (HS.alloc #[.int .u32 er, .int .u64 ck, .slice A n c] 55).allocB #[.int .u32 er, .int .u64 ck, .slice B m b] 55 (B := w.heap.size + 1) (by simp)
  have h1 := run_str (P := Try.prog) (c := c) (hr.cons.cons.read HSb) 24 9 5 Try.underlying24 Try.underlying5 Try.underlying9
  have h2 := run_str (P := Try.prog) (c := b) (hq.cons.cons.read HSb) 24 9 5 Try.underlying24 Try.underlying5 Try.underlying9
  generalize strOfNums d = s at h1 h2
  clear hr hq
  go_enter Try.func25, Try.ntmps25
  go_wp2
  go_ret
  exact ⟨rfl, HSb.drop.drop⟩
end
end Go.Proofs.Ytbfcnbggkcaolaa
