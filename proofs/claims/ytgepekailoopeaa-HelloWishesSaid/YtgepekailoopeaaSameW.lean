/-
  cisternref22.SameWish, cisternlaw22.isWish, where the two say the same.
-/
import Derived.Test.YtgepekailoopeaaHelA
namespace Go.Proofs.Ytgepekailoopeaa
open Go.RowKit
set_option linter.unusedVariables false
set_option linter.unusedSimpArgs false
section
variable {w0 w : World} {O : Nat → Prop} {L : List Asr}
set_option maxHeartbeats 4000000 in
set_option maxRecDepth 100000 in
theorem rsamewish_true {op : Int} {nm : ByteArray} {A B : Option Addr} {n c d : Nat} {l : List Int} (HS : Sep w0 w O L) (hr : Rb w0 O L 1 A n (kv .u16 l)) (hq : Rb w0 O L 1 B n (kv .u16 l)) (hn : n ≤ 70368744177664) :
    Calls Try.prog 78 #[.agg #[.int .u32 op, .string nm, .slice A n c], .agg #[.int .u32 op, .string nm, .slice B n d]] w fun e w' => e = .returned (.bool true) ∧ Sep w0 w' O L := by
  have HSb := (HS.alloc #[.int .u32 op, .string nm, .slice A n c] 55).allocB #[.int .u32 op, .string nm, .slice B n d] 55 (B := w.heap.size + 1) (by simp)
  go_enter Try.func78, Try.ntmps78
  go_wp2_with fail
  go_loopw [5] (fun i wr => ∃ k : Nat, k ≤ n ∧ i = .int .i64 k ∧ Sep w0 wr O (blk (w.heap.size + 1) 55 #[.int .u32 op, .string nm, .slice B n d] :: blk w.heap.size 55 #[.int .u32 op, .string nm, .slice A n c] :: L)) (fun i _ => n - (intOf i).toNat)
  case atStart => exact ⟨0, Nat.zero_le _, rfl, HSb⟩
  case round =>
    obtain ⟨k, hk, rfl, HS3⟩ := hrel
    clear HSb
    have a2 := HS3.up1.blk_at 2 rfl
    have b2 := HS3.blk_at 2 rfl
    by_cases hlt : k < n
    · obtain ⟨ad, y, rfl, hy, hm, hcell⟩ := hr.cons.cons.elemn HS3 hlt
      obtain ⟨bd, y', rfl, hy', hm', hcell'⟩ := hq.cons.cons.elemn HS3 hlt
      obtain rfl : y = y' := by rw [hy] at hy'; injection hy'
      clear hy hy' hm hm'
      have hj : (k : Int) < n := by omega
      have j0 : (0 : Int) ≤ k := by omega
      go_upto_region 6 with (fail)
      go_quiet (fail)
      have HS4 := HS3.drewN nq
      go_wp2
      go_roundw
      case rel => exact ⟨k + 1, by omega, by go_num, HS4⟩
      case measure => simp [intOf]; omega
    · obtain rfl : n = k := by omega
      have hj : ¬ (n : Int) < n := by omega
      go_wp2
      go_ret
      exact ⟨rfl, HS3.drop.drop⟩

set_option maxHeartbeats 4000000 in
set_option maxRecDepth 100000 in
theorem iswish_true {op : Int} {nm : ByteArray} {A B : Option Addr} {n c d : Nat} {l : List Int} (HS : Sep w0 w O L) (hr : Rb w0 O L 1 A n (kv .u16 l)) (hq : Rb w0 O L 1 B n (kv .u16 l)) (hn : n ≤ 70368744177664) :
    Calls Try.prog 48 #[.agg #[.int .u32 op, .string nm, .slice A n c], .agg #[.int .u32 op, .string nm, .slice B n d]] w fun e w' => e = .returned (.bool true) ∧ Sep w0 w' O L := by
  have HSb := (HS.alloc #[.int .u32 op, .string nm, .slice A n c] 66).allocB #[.int .u32 op, .string nm, .slice B n d] 55 (B := w.heap.size + 1) (by simp)
  go_enter Try.func48, Try.ntmps48
  go_wp2_with fail
  refine (rsamewish_true HSb hr.cons.cons hq.cons.cons hn).mono ?_
  rintro e w2 ⟨rfl, HS2⟩
  go_wp2
  go_ret
  exact ⟨rfl, HS2.drop.drop⟩
end
end Go.Proofs.Ytgepekailoopeaa
