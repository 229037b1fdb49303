/-
  cisternlaw22.isRaw, where the two say the same.
-/
import Derived.Test.YtgepekailoopeaaHel7
namespace Go.Proofs.Ytgepekailoopeaa
open Go.RowKit
set_option linter.unusedVariables false
set_option linter.unusedSimpArgs false
section
variable {w0 w : World} {O : Nat → Prop} {L : List Asr}
set_option maxHeartbeats 2000000 in
set_option maxRecDepth 100000 in
theorem israw_true {op : Int} {A B : Option Addr} {n c d : Nat} {l : List Int} (HS : Sep w0 w O L) (hr : Rb w0 O L 1 A n (by8 l)) (hq : Rb w0 O L 1 B n (by8 l)) :
    Calls Try.prog 21 #[.agg #[.int .u32 op, .slice A n c], .agg #[.int .u32 op, .slice B n d]] w fun e w' => e = .returned (.bool true) ∧ Sep w0 w' O L := by
  have HSb := (HS.alloc #[.int .u32 op, .slice A n c] 31).allocB #[.int .u32 op, .slice B n d] 25 (B := w.heap.size + 1) (by simp)
  have hv1 := run_str (P := Try.prog) (c := c) (hr.cons.cons.read HSb) 23 9 5 Try.underlying23 Try.underlying5 Try.underlying9
  have hv2 := run_str (P := Try.prog) (c := d) (hq.cons.cons.read HSb) 23 9 5 Try.underlying23 Try.underlying5 Try.underlying9
  generalize strOfNums l = sx at hv1 hv2
  have a0 := HSb.up1.blk_at 0 rfl
  have a1 := HSb.up1.blk_at 1 rfl
  have b0 := HSb.blk_at 0 rfl
  have b1 := HSb.blk_at 1 rfl
  go_enter Try.func21, Try.ntmps21
  go_wp2
  go_ret
  exact ⟨rfl, HSb.drop.drop⟩
end
end Go.Proofs.Ytgepekailoopeaa
