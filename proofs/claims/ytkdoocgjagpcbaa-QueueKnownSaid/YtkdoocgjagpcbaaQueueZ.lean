/-
  A queue that is none: what its methods tell.
-/
import Derived.Test.YtkdoocgjagpcbaaQueueQ
import Derived.Test.YtkdoocgjagpcbaaQueueT
namespace Go.Proofs.Ytkdoocgjagpcbaa
open Go.RowKit
set_option linter.unusedVariables false
set_option linter.unusedSimpArgs false
/-- p is no queue -/
def NoQ (w0 : World) (O : Nat → Prop) (L : List Asr) (p : Value) : Prop := ∀ {W : World}, Sep w0 W O L → Calls Try.prog 25 #[p] W fun e w' => e = .returned (.bool true) ∧ w' = W
section
variable {w0 w : World} {O : Nat → Prop} {L : List Asr} {p : Option Addr}
theorem noQ_nil : NoQ w0 O L (.pointer none) := fun _ => none_nil
theorem noQ_zero {g : Nat} {cs : Array Value} (hm : blk g 61 cs ∈ L) (h0 : cs[0]? = some (.bool false)) : NoQ w0 O L (.pointer (some ⟨g, 0, none⟩)) := fun {W} h => by
  obtain ⟨A, B, rfl⟩ := List.append_of_mem hm
  exact none_is (m := false) (h.perm (List.perm_middle)) h0
theorem add_no {f c id : Int} (NQ : NoQ w0 O L (.pointer p)) (HS : Sep w0 w O L) : Calls Try.prog 9 #[.pointer p, .int .i64 f, .int .i64 c, .int .u64 id] w fun e w' => e = .returned (.int .i64 2) ∧ w' = w := by
  have hN := NQ HS
  go_enter Try.func9, Try.ntmps9
  go_wp2_with fail
  refine hN.mono ?_
  rintro e w' ⟨rfl, rfl⟩
  go_wp2
  go_ret
  exact ⟨rfl, rfl⟩
theorem all_no (NQ : NoQ w0 O L (.pointer p)) (HS : Sep w0 w O L) : Calls Try.prog 27 #[.pointer p] w fun e w' => e = .returned (.slice none 0 0) ∧ w' = w := by
  have hN := NQ HS
  go_enter Try.func27, Try.ntmps27
  go_wp2_with fail
  refine hN.mono ?_
  rintro e w' ⟨rfl, rfl⟩
  go_wp2
  go_ret
  exact ⟨rfl, rfl⟩
theorem copy_no (NQ : NoQ w0 O L (.pointer p)) (HS : Sep w0 w O L) : Calls Try.prog 23 #[.pointer p] w fun e w' => e = .returned (.pointer none) ∧ w' = w := by
  have hN := NQ HS
  go_enter Try.func23, Try.ntmps23
  go_wp2_with fail
  refine hN.mono ?_
  rintro e w' ⟨rfl, rfl⟩
  go_wp2
  go_ret
  exact ⟨rfl, rfl⟩
theorem len_no (NQ : NoQ w0 O L (.pointer p)) (HS : Sep w0 w O L) : Calls Try.prog 12 #[.pointer p] w fun e w' => e = .returned (.int .i64 0) ∧ w' = w := by
  have hN := NQ HS
  go_enter Try.func12, Try.ntmps12
  go_wp2_with fail
  refine hN.mono ?_
  rintro e w' ⟨rfl, rfl⟩
  go_wp2
  go_ret
  exact ⟨rfl, rfl⟩
theorem time_no (NQ : NoQ w0 O L (.pointer p)) (HS : Sep w0 w O L) : Calls Try.prog 14 #[.pointer p] w fun e w' => e = .returned (.int .i64 0) ∧ w' = w := by
  have hN := NQ HS
  go_enter Try.func14, Try.ntmps14
  go_wp2_with fail
  refine hN.mono ?_
  rintro e w' ⟨rfl, rfl⟩
  go_wp2
  go_ret
  exact ⟨rfl, rfl⟩
theorem of_no {f : Int} (NQ : NoQ w0 O L (.pointer p)) (HS : Sep w0 w O L) : Calls Try.prog 10 #[.pointer p, .int .i64 f] w fun e w' => e = .returned (.int .i64 0) ∧ w' = w := by
  have hN := NQ HS
  go_enter Try.func10, Try.ntmps10
  go_wp2_with fail
  refine hN.mono ?_
  rintro e w' ⟨rfl, rfl⟩
  go_wp2
  go_ret
  exact ⟨rfl, rfl⟩
theorem list_no (NQ : NoQ w0 O L (.pointer p)) (HS : Sep w0 w O L) : Calls Try.prog 17 #[.pointer p] w fun e w' => e = .returned (.slice none 0 0) ∧ w' = w := by
  have hN := all_no NQ HS
  go_enter Try.func17, Try.ntmps17
  go_wp2_with fail
  refine hN.mono ?_
  rintro e w' ⟨rfl, hw⟩
  obtain rfl := hw.symm
  go_wp2
  go_loopw [3, 9] (fun v i wr => v = .slice none 0 0 ∧ i = .int .i64 0 ∧ wr = w) (fun _ _ _ => 0)
  case atStart => exact ⟨rfl, rfl, rfl⟩
  case round =>
    obtain ⟨rfl, rfl, rfl⟩ := hrel
    have h0 : ¬ (0 : Int) < 0 := by decide
    go_wp2
    go_ret
    exact ⟨rfl, rfl⟩
theorem drop_no {f : Int} (NQ : NoQ w0 O L (.pointer p)) (HS : Sep w0 w O L) : Calls Try.prog 16 #[.pointer p, .int .i64 f] w fun e w' => e = .returned (.int .i64 0) ∧ Sep w0 w' O L := by
  have HB := HS.alloc #[.int .i64 f] 3
  have b0 := HB.blkAt 0 rfl
  have HC := HS.alloc_ (.cells #[.int .i64 f] 3)
  have hO := of_no (f := f) NQ HC
  have hN := NQ HC
  clear HB
  go_enter Try.func16, Try.ntmps16
  go_wp2_with fail
  refine hO.mono ?_
  rintro e w' ⟨rfl, rfl⟩
  go_wp2_with fail
  refine hN.mono ?_
  rintro e w' ⟨rfl, rfl⟩
  go_wp2
  go_ret
  exact ⟨rfl, HC⟩
theorem at_no {i : Int} (NQ : NoQ w0 O L (.pointer p)) (HS : Sep w0 w O L) (hi : 0 ≤ i) : Calls Try.prog 13 #[.pointer p, .int .i64 i] w fun e w' => e = .returned (.tuple #[.agg #[.int .i64 0, .int .i64 0, .int .u64 0], .bool false]) ∧ Sep w0 w' O L := by
  have HB := HS.alloc #[.int .i64 0, .int .i64 0, .int .u64 0] 35
  have hA := all_no NQ (HS.alloc_ (.cells #[.int .i64 0, .int .i64 0, .int .u64 0] 35))
  have h0 : ¬ i < 0 := by omega
  clear HS
  go_enter Try.func13, Try.ntmps13
  go_wp2_with fail
  refine hA.mono ?_
  rintro e w' ⟨rfl, rfl⟩
  go_wp2
  (try simp only [Exit.inBlock, Exit.then])
  refine bodyPost_ret (results_rowa rfl _ _ _ _ _ _ _ rfl HB.blk_heap Try.underlying35 rfl info_item) rfl ?_
  exact ⟨rfl, HB.drop⟩
theorem takeat_no {i : Int} (NQ : NoQ w0 O L (.pointer p)) (HS : Sep w0 w O L) (hi : 0 ≤ i) : Calls Try.prog 15 #[.pointer p, .int .i64 i] w fun e w' => e = .returned (.tuple #[.agg #[.int .i64 0, .int .i64 0, .int .u64 0], .bool false]) ∧ Sep w0 w' O L := by
  have HB := HS.alloc #[.int .i64 0, .int .i64 0, .int .u64 0] 35
  have hA := all_no NQ (HS.alloc_ (.cells #[.int .i64 0, .int .i64 0, .int .u64 0] 35))
  have h0 : ¬ i < 0 := by omega
  clear HS
  go_enter Try.func15, Try.ntmps15
  go_wp2_with fail
  refine hA.mono ?_
  rintro e w' ⟨rfl, rfl⟩
  go_wp2
  (try simp only [Exit.inBlock, Exit.then])
  refine bodyPost_ret (results_rowa rfl _ _ _ _ _ _ _ rfl HB.blk_heap Try.underlying35 rfl info_item) rfl ?_
  exact ⟨rfl, HB.drop⟩
theorem take_no (NQ : NoQ w0 O L (.pointer p)) (HS : Sep w0 w O L) : Calls Try.prog 11 #[.pointer p] w fun e w' => e = .returned (.tuple #[.agg #[.int .i64 0, .int .i64 0, .int .u64 0], .bool false]) ∧ Sep w0 w' O L := by
  have HB := HS.alloc #[.int .i64 0, .int .i64 0, .int .u64 0] 35
  obtain ⟨gb, hgb⟩ : ∃ gb, gb = w.heap.size := ⟨_, rfl⟩
  rw [← hgb] at HB
  have HG := hid hgb
  have NQ2 : NoQ w0 O (blk gb 35 #[.int .i64 0, .int .i64 0, .int .u64 0] :: L) (.pointer p) := fun h => NQ h.drop
  have hT := takeat_no (i := 0) NQ2 HB (by decide)
  clear hgb HS
  go_enter Try.func11, Try.ntmps11
  go_upto_region 1 with (fail)
  rw [← HG.out]
  go_wp2_with fail
  refine hT.mono ?_
  rintro e w1 ⟨rfl, H2⟩
  have d0 := H2.blkAt 0 rfl
  have d1 := H2.blkAt 1 rfl
  have d2 := H2.blkAt 2 rfl
  have f0 := H2.blk_frozen 0
  have f1 := H2.blk_frozen 1
  have f2 := H2.blk_frozen 2
  have H4 := ((H2.blk_set 0 (.int .i64 0)).blk_set 1 (.int .i64 0)).blk_set 2 (.int .u64 0)
  go_wp2
  (try simp only [Exit.inBlock, Exit.then])
  refine bodyPost_ret (results_rowa rfl _ _ _ _ _ _ _ rfl H4.blk_heap Try.underlying35 rfl info_item) rfl ?_
  exact ⟨rfl, H4.drop⟩
end
end Go.Proofs.Ytkdoocgjagpcbaa
