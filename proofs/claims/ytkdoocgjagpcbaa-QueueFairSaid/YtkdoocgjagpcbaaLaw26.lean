/-
  Contract of cisternlaw26.wakes.
-/
import Derived.Test.YtkdoocgjagpcbaaQueueQ
import Derived.Test.YtkdoocgjagpcbaaQueueT
import Derived.Test.YtkdoocgjagpcbaaView
namespace Go.Proofs.Ytkdoocgjagpcbaa
open Go.RowKit
set_option linter.unusedVariables false
set_option linter.unusedSimpArgs false
def kq0 : Qu := ⟨0, 1, [10, 0, 0, 0, 0, 0, 0, 0], [⟨0, 10, 1, 10, 1⟩]⟩
def kq1 : Qu := ⟨0, 2, [20, 0, 0, 0, 0, 0, 0, 0], [⟨0, 10, 1, 10, 1⟩, ⟨0, 10, 2, 20, 2⟩]⟩
def kq2 : Qu := ⟨0, 3, [20, 5, 0, 0, 0, 0, 0, 0], [⟨1, 5, 3, 5, 3⟩, ⟨0, 10, 1, 10, 1⟩, ⟨0, 10, 2, 20, 2⟩]⟩
def kq3 : Qu := ⟨0, 4, [20, 10, 0, 0, 0, 0, 0, 0], [⟨1, 5, 3, 5, 3⟩, ⟨0, 10, 1, 10, 1⟩, ⟨1, 5, 4, 10, 4⟩, ⟨0, 10, 2, 20, 2⟩]⟩
def kq4 : Qu := ⟨5, 4, [20, 10, 0, 0, 0, 0, 0, 0], [⟨0, 10, 1, 10, 1⟩, ⟨1, 5, 4, 10, 4⟩, ⟨0, 10, 2, 20, 2⟩]⟩
def kq5 : Qu := ⟨10, 4, [20, 10, 0, 0, 0, 0, 0, 0], [⟨1, 5, 4, 10, 4⟩, ⟨0, 10, 2, 20, 2⟩]⟩
def kq6 : Qu := ⟨10, 5, [20, 10, 11, 0, 0, 0, 0, 0], [⟨1, 5, 4, 10, 4⟩, ⟨2, 1, 5, 11, 5⟩, ⟨0, 10, 2, 20, 2⟩]⟩
def kq7 : Qu := ⟨20, 5, [20, 10, 11, 0, 0, 0, 0, 0], [⟨1, 5, 4, 10, 4⟩, ⟨2, 1, 5, 11, 5⟩]⟩
def kq8 : Qu := ⟨20, 5, [20, 0, 11, 0, 0, 0, 0, 0], [⟨2, 1, 5, 11, 5⟩]⟩
section
variable {w0 w : World} {O : Nat → Prop} {L : List Asr}

set_option maxHeartbeats 4000000 in
set_option maxRecDepth 10000 in
theorem wakes_calls (HS : Sep w0 w O L) : Calls Try.prog 8 #[] w fun e w' => e = .returned (.bool true) ∧ Sep w0 w' O L := by
  go_enter Try.func8, Try.ntmps8
  go_wp2_with fail
  refine (qnew_calls HS).mono ?_
  rintro e w0' ⟨g, rfl, H0⟩
  have a1 := qadd_calls (f := 0) (c := 10) (id := 1) H0 (by decide)
  rw [show adE noQu 0 10 = 0 from rfl, show adQ noQu 0 10 1 = kq0 from rfl] at a1
  go_wp2_with fail
  refine a1.mono ?_
  rintro e w1 ⟨rfl, H1⟩
  clear a1
  have a2 := qadd_calls (f := 0) (c := 10) (id := 2) H1 (by decide)
  rw [show adE kq0 0 10 = 0 from rfl, show adQ kq0 0 10 2 = kq1 from rfl] at a2
  go_wp2_with fail
  refine a2.mono ?_
  rintro e w2 ⟨rfl, H2⟩
  clear a2
  have a3 := qadd_calls (f := 1) (c := 5) (id := 3) H2 (by decide)
  rw [show adE kq1 1 5 = 0 from rfl, show adQ kq1 1 5 3 = kq2 from rfl] at a3
  go_wp2_with fail
  refine a3.mono ?_
  rintro e w3 ⟨rfl, H3⟩
  clear a3
  have a4 := qadd_calls (f := 1) (c := 5) (id := 4) H3 (by decide)
  rw [show adE kq2 1 5 = 0 from rfl, show adQ kq2 1 5 4 = kq3 from rfl] at a4
  go_wp2_with fail
  refine a4.mono ?_
  rintro e w4 ⟨rfl, H4⟩
  clear a4
  have l5 := qlist_calls H4
  rw [show (kq3).S.length = 4 from rfl] at l5
  go_wp2_with fail
  refine l5.mono ?_
  rintro e w5 ⟨A, cA, rfl, K5⟩
  clear l5
  obtain ⟨a, rfl⟩ := K5.own_some (by decide)
  have H5 := K5.up1
  have t6 := qtake_calls H5 (by decide)
  rw [show tkAt kq3 0 = ⟨1, 5, 3, 5, 3⟩ from rfl, show tkIs kq3 0 = true from rfl, show tkQ kq3 0 = kq4 from rfl] at t6
  have T6 : Calls Try.prog 11 #[.pointer (some ⟨g, 0, none⟩)] _ _ := t6
  dsimp only at t6 T6
  go_wp2_with fail
  refine t6.mono ?_
  rintro e w6 ⟨rfl, H6⟩
  clear t6 T6
  have B6 := (H6.alloc #[.int .i64 1, .int .i64 5, .int .u64 3] 35).up1
  obtain ⟨ga, hga⟩ : ∃ z, z = w6.heap.size := ⟨_, rfl⟩
  obtain ⟨v6, hv6⟩ : ∃ z, z = w6.alloc (.cells #[.int .i64 1, .int .i64 5, .int .u64 3] 35) := ⟨_, rfl⟩
  rw [← hga, ← hv6] at B6
  have HG6 := hid hga
  have HV6 := hid hv6
  clear hga hv6 H6
  go_upto_region 6 with (fail)
  rw [← HG6.out, ← HV6.out]
  have t7 := qtake_calls B6 (by decide)
  rw [show tkAt kq4 0 = ⟨0, 10, 1, 10, 1⟩ from rfl, show tkIs kq4 0 = true from rfl, show tkQ kq4 0 = kq5 from rfl] at t7
  have T7 : Calls Try.prog 11 #[.pointer (some ⟨g, 0, none⟩)] _ _ := t7
  dsimp only at t7 T7
  go_wp2_with fail
  refine t7.mono ?_
  rintro e w7 ⟨rfl, H7⟩
  clear t7 T7
  have B7 := (H7.alloc #[.int .i64 0, .int .i64 10, .int .u64 1] 35).up1
  obtain ⟨gb, hgb⟩ : ∃ z, z = w7.heap.size := ⟨_, rfl⟩
  obtain ⟨v7, hv7⟩ : ∃ z, z = w7.alloc (.cells #[.int .i64 0, .int .i64 10, .int .u64 1] 35) := ⟨_, rfl⟩
  rw [← hgb, ← hv7] at B7
  have HG7 := hid hgb
  have HV7 := hid hv7
  clear hgb hv7 H7
  go_upto_region 7 with (fail)
  rw [← HG7.out, ← HV7.out]
  have c2 : v7.cell? ⟨a, 8, none⟩ = some (.int .u64 4) := B7.up3.icell (i := 2) (l := kq3.S) (by decide) rfl 2 rfl
  have c3 : v7.cell? ⟨a, 11, none⟩ = some (.int .u64 2) := B7.up3.icell (i := 3) (l := kq3.S) (by decide) rfl 2 rfl
  have x2 := B7.up2.blkAt 2 rfl
  have y2 := B7.up1.blkAt 2 rfl
  have tm := qtime_calls B7
  rw [show (kq5).time = 10 from rfl] at tm
  go_wp2_with fail
  refine tm.mono ?_
  rintro e w' ⟨rfl, hw'⟩
  obtain rfl := hw'.symm
  clear tm hw'
  have a8 := qadd_calls (f := 2) (c := 1) (id := 5) B7 (by decide)
  rw [show adE kq5 2 1 = 0 from rfl, show adQ kq5 2 1 5 = kq6 from rfl] at a8
  go_wp2_with fail
  refine a8.mono ?_
  rintro e w8 ⟨rfl, H8⟩
  clear a8
  clear c2 c3 x2 y2
  have t9 := qat_calls (i := 1) H8
  rw [show tkAt kq6 1 = ⟨2, 1, 5, 11, 5⟩ from rfl, show tkIs kq6 1 = true from rfl] at t9
  dsimp only at t9
  go_wp2_with fail
  refine t9.mono ?_
  rintro e w9 ⟨rfl, H9⟩
  clear t9
  have B9 := (H9.alloc #[.int .i64 2, .int .i64 1, .int .u64 5] 35).up1
  obtain ⟨gc, hgc⟩ : ∃ z, z = w9.heap.size := ⟨_, rfl⟩
  obtain ⟨v9, hv9⟩ : ∃ z, z = w9.alloc (.cells #[.int .i64 2, .int .i64 1, .int .u64 5] 35) := ⟨_, rfl⟩
  rw [← hgc, ← hv9] at B9
  have HG9 := hid hgc
  have HV9 := hid hv9
  clear hgc hv9 H9
  go_upto_region 10 with (fail)
  rw [← HG9.out, ← HV9.out]
  have t10 := qtakeat_calls (i := 2) B9 (by decide)
  rw [show tkAt kq6 2 = ⟨0, 10, 2, 20, 2⟩ from rfl, show tkIs kq6 2 = true from rfl, show tkQ kq6 2 = kq7 from rfl] at t10
  dsimp only at t10
  go_wp2_with fail
  refine t10.mono ?_
  rintro e w10 ⟨rfl, H10⟩
  clear t10
  have B10 := (H10.alloc #[.int .i64 0, .int .i64 10, .int .u64 2] 35).up1
  obtain ⟨gd, hgd⟩ : ∃ z, z = w10.heap.size := ⟨_, rfl⟩
  obtain ⟨v10, hv10⟩ : ∃ z, z = w10.alloc (.cells #[.int .i64 0, .int .i64 10, .int .u64 2] 35) := ⟨_, rfl⟩
  rw [← hgd, ← hv10] at B10
  have HG10 := hid hgd
  have HV10 := hid hv10
  clear hgd hv10 H10
  go_upto_region 11 with (fail)
  rw [← HG10.out, ← HV10.out]
  have x2 := B10.up2.blkAt 2 rfl
  have y2 := B10.up1.blkAt 2 rfl
  have tm := qtime_calls B10
  rw [show (kq7).time = 20 from rfl] at tm
  go_wp2_with fail
  refine tm.mono ?_
  rintro e w' ⟨rfl, hw'⟩
  obtain rfl := hw'.symm
  clear tm hw' x2 y2
  have dr := qdrop_calls (f := 1) B10
  rw [show ofQ kq7 1 = 1 from rfl, show drQ kq7 1 = kq8 from rfl] at dr
  go_wp2_with fail
  refine dr.mono ?_
  rintro e w11 ⟨rfl, H11⟩
  clear dr
  have ln := qlen_calls H11
  rw [show (kq8).S.length = 1 from rfl] at ln
  go_wp2_with fail
  refine ln.mono ?_
  rintro e w' ⟨rfl, hw'⟩
  obtain rfl := hw'.symm
  clear ln hw'
  go_wp2
  go_ret
  exact ⟨rfl, H11.drop.drop.drop.drop.drop.drop⟩
end
end Go.Proofs.Ytkdoocgjagpcbaa
