/-
  The walk of QueueKnown.
-/
import Derived.Test.YtkdoocgjagpcbaaLaw26
import Derived.Test.YtkdoocgjagpcbaaQueueZ
namespace Go.Proofs.Ytkdoocgjagpcbaa
open Go.RowKit
set_option linter.unusedVariables false
set_option linter.unusedSimpArgs false
def kn : Nat → Qu
  | 0 => noQu
  | k + 1 => adQ (kn k) 7 1048576 k
theorem kn_ok {k : Nat} (hk : k < 16) : adE (kn k) 7 1048576 = 0 := by
  have h : ∀ k : Fin 16, adE (kn k) 7 1048576 = 0 := by decide
  exact h ⟨k, hk⟩
theorem kn_a : adE (kn 16) 7 1 = 8 := by decide
theorem kn_q : adQ (kn 16) 7 1 0 = kn 16 := by
  unfold adQ
  rw [if_neg (by rw [kn_a]; decide)]
theorem kn_o : ofQ (kn 16) 7 = 16 := by decide
def knD : Qu := ⟨0, 16, [0, 0, 0, 0, 0, 0, 0, 0], []⟩
theorem kn_d : drQ (kn 16) 7 = knD := by kernel_rfl
def knE : Qu := ⟨0, 17, [0, 0, 0, 0, 0, 0, 0, 1], [⟨7, 1, 9, 1, 17⟩]⟩
def knF : Qu := ⟨1, 17, [0, 0, 0, 0, 0, 0, 0, 1], []⟩

set_option maxHeartbeats 4000000 in
set_option maxRecDepth 10000 in
theorem queueKnown_walk (w : World) :
    Calls Try.prog 6 #[] w fun e w' => e = .returned (.bool true) ∧ Below w.heap.size w w' := by
  have HS := Sep.start w
  go_enter Try.func6, Try.ntmps6
  have B1 := HS.alloc #[.bool false, .int .i64 0, .int .i64 0, .int .i64 0, .int .i64 0, .int .i64 0, .int .i64 0, .int .i64 0, .int .i64 0, .int .i64 0, .int .i64 0, .int .i64 0, .int .i64 0, .int .i64 0, .int .i64 0, .int .i64 0, .int .i64 0, .int .i64 0, .int .i64 0, .slice none 0 0] 61
  obtain ⟨gz, hgz⟩ : ∃ z, z = w.heap.size := ⟨_, rfl⟩
  obtain ⟨v1, hv1⟩ : ∃ z, z = w.alloc (.cells #[.bool false, .int .i64 0, .int .i64 0, .int .i64 0, .int .i64 0, .int .i64 0, .int .i64 0, .int .i64 0, .int .i64 0, .int .i64 0, .int .i64 0, .int .i64 0, .int .i64 0, .int .i64 0, .int .i64 0, .int .i64 0, .int .i64 0, .int .i64 0, .int .i64 0, .slice none 0 0] 61) := ⟨_, rfl⟩
  rw [← hgz, ← hv1] at B1
  have HG1 := hid hgz
  have HV1 := hid hv1
  clear hgz hv1 HS
  go_upto_region 3 with (fail)
  rw [← HG1.out, ← HV1.out]
  go_wp2_with fail
  refine (take_no noQ_nil B1).mono ?_
  rintro e w2 ⟨rfl, H2⟩
  have B2 := H2.alloc #[.int .i64 0, .int .i64 0, .int .u64 0] 35
  obtain ⟨ga, hga⟩ : ∃ z, z = w2.heap.size := ⟨_, rfl⟩
  obtain ⟨v2, hv2⟩ : ∃ z, z = w2.alloc (.cells #[.int .i64 0, .int .i64 0, .int .u64 0] 35) := ⟨_, rfl⟩
  rw [← hga, ← hv2] at B2
  have HG2 := hid hga
  have HV2 := hid hv2
  clear hga hv2 H2
  clear B1
  go_upto_region 4 with (fail)
  rw [← HG2.out, ← HV2.out]
  have nz : NoQ w (fun _ => False) (blk ga 35 #[.int .i64 0, .int .i64 0, .int .u64 0] :: blk gz 61 #[.bool false, .int .i64 0, .int .i64 0, .int .i64 0, .int .i64 0, .int .i64 0, .int .i64 0, .int .i64 0, .int .i64 0, .int .i64 0, .int .i64 0, .int .i64 0, .int .i64 0, .int .i64 0, .int .i64 0, .int .i64 0, .int .i64 0, .int .i64 0, .int .i64 0, .slice none 0 0] :: []) (.pointer (some ⟨gz, 0, none⟩)) := noQ_zero (List.mem_cons_of_mem _ (List.mem_cons_self ..)) rfl
  go_wp2_with fail
  refine (at_no (i := 0) nz B2 (by decide)).mono ?_
  rintro e w3 ⟨rfl, H3⟩
  have B3 := H3.alloc #[.int .i64 0, .int .i64 0, .int .u64 0] 35
  obtain ⟨gb, hgb⟩ : ∃ z, z = w3.heap.size := ⟨_, rfl⟩
  obtain ⟨v3, hv3⟩ : ∃ z, z = w3.alloc (.cells #[.int .i64 0, .int .i64 0, .int .u64 0] 35) := ⟨_, rfl⟩
  rw [← hgb, ← hv3] at B3
  have HG3 := hid hgb
  have HV3 := hid hv3
  clear hgb hv3 H3
  clear B2 nz
  go_upto_region 5 with (fail)
  rw [← HG3.out, ← HV3.out]
  have nz : NoQ w (fun _ => False) (blk gb 35 #[.int .i64 0, .int .i64 0, .int .u64 0] :: blk ga 35 #[.int .i64 0, .int .i64 0, .int .u64 0] :: blk gz 61 #[.bool false, .int .i64 0, .int .i64 0, .int .i64 0, .int .i64 0, .int .i64 0, .int .i64 0, .int .i64 0, .int .i64 0, .int .i64 0, .int .i64 0, .int .i64 0, .int .i64 0, .int .i64 0, .int .i64 0, .int .i64 0, .int .i64 0, .int .i64 0, .int .i64 0, .slice none 0 0] :: []) (.pointer (some ⟨gz, 0, none⟩)) := noQ_zero (List.mem_cons_of_mem _ (List.mem_cons_of_mem _ (List.mem_cons_self ..))) rfl
  have NZ := hid @nz
  clear nz
  have cc := add_no (f := 0) (c := 1) (id := 0) noQ_nil B3
  go_wp2_with fail
  refine cc.mono ?_
  rintro e w' ⟨rfl, hw'⟩
  obtain rfl := hw'.symm
  clear cc hw'
  have cc := add_no (f := 9) (c := 1) (id := 0) NZ.out B3
  go_wp2_with fail
  refine cc.mono ?_
  rintro e w' ⟨rfl, hw'⟩
  obtain rfl := hw'.symm
  clear cc hw'
  have cc := copy_no noQ_nil B3
  go_wp2_with fail
  refine cc.mono ?_
  rintro e w' ⟨rfl, hw'⟩
  obtain rfl := hw'.symm
  clear cc hw'
  have cc := copy_no NZ.out B3
  go_wp2_with fail
  refine cc.mono ?_
  rintro e w' ⟨rfl, hw'⟩
  obtain rfl := hw'.symm
  clear cc hw'
  have cc := len_no noQ_nil B3
  go_wp2_with fail
  refine cc.mono ?_
  rintro e w' ⟨rfl, hw'⟩
  obtain rfl := hw'.symm
  clear cc hw'
  have cc := list_no NZ.out B3
  go_wp2_with fail
  refine cc.mono ?_
  rintro e w' ⟨rfl, hw'⟩
  obtain rfl := hw'.symm
  clear cc hw'
  have cc := of_no (f := 0) noQ_nil B3
  go_wp2_with fail
  refine cc.mono ?_
  rintro e w' ⟨rfl, hw'⟩
  obtain rfl := hw'.symm
  clear cc hw'
  have cc := time_no noQ_nil B3
  go_wp2_with fail
  refine cc.mono ?_
  rintro e w' ⟨rfl, hw'⟩
  obtain rfl := hw'.symm
  clear cc hw'
  go_wp2_with fail
  refine (drop_no (f := 0) NZ.out B3).mono ?_
  rintro e w4 ⟨rfl, H4⟩
  clear B3 NZ
  go_wp2_with fail
  refine (qnew_calls H4.drop.drop.drop).mono ?_
  rintro e w5 ⟨g, rfl, H5⟩
  clear H4
  have a6 := qadd_calls (f := 8) (c := 1) (id := 0) H5 (by decide)
  rw [show adE noQu 8 1 = 1 from rfl, show adQ noQu 8 1 0 = noQu from rfl] at a6
  go_wp2_with fail
  refine a6.mono ?_
  rintro e w6 ⟨rfl, H6⟩
  clear a6
  have a7 := qadd_calls (f := (-1)) (c := 1) (id := 0) H6 (by decide)
  rw [show adE noQu (-1) 1 = 1 from rfl, show adQ noQu (-1) 1 0 = noQu from rfl] at a7
  go_wp2_with fail
  refine a7.mono ?_
  rintro e w7 ⟨rfl, H7⟩
  clear a7
  have a8 := qadd_calls (f := 0) (c := 0) (id := 0) H7 (by decide)
  rw [show adE noQu 0 0 = 1 from rfl, show adQ noQu 0 0 0 = noQu from rfl] at a8
  go_wp2_with fail
  refine a8.mono ?_
  rintro e w8 ⟨rfl, H8⟩
  clear a8
  have a9 := qadd_calls (f := 0) (c := 1048577) (id := 0) H8 (by decide)
  rw [show adE noQu 0 1048577 = 1 from rfl, show adQ noQu 0 1048577 0 = noQu from rfl] at a9
  go_wp2_with fail
  refine a9.mono ?_
  rintro e w9 ⟨rfl, H9⟩
  clear a9
  have H10 : Sep w w9 (fun _ => False) (quA g 4 (kn 0) :: []) := H9
  clear H5 H6 H7 H8 H9
  go_wp2
  go_loopw [8] (fun i wr => ∃ k : Nat, k ≤ 16 ∧ i = .int .u64 k ∧ Sep w wr (fun _ => False) (quA g (4 + k) (kn k) :: [])) (fun i _ => 16 - (intOf i).toNat)
  case atStart => exact ⟨0, Nat.zero_le _, rfl, H10⟩
  case round =>
    obtain ⟨k, hk, rfl, H11⟩ := hrel
    clear H10
    by_cases hlt : k < 16
    · have hk1 : (k : Int) < 16 := by omega
      have wk : IntKind.u64.wrap ((k : Int) + 1) = k + 1 := by rw [IntKind.wrap_u64]; omega
      have a := qadd_calls (f := 7) (c := 1048576) (id := (k : Int)) H11 (by omega)
      rw [kn_ok hlt, show adQ (kn k) 7 1048576 k = kn (k + 1) from rfl] at a
      go_wp2_with fail
      refine a.mono ?_
      rintro e w12 ⟨rfl, H12⟩
      clear a
      go_wp2
      go_roundw
      case rel => exact ⟨k + 1, by omega, by first | rfl | go_num, H12⟩
      case measure => simp [intOf]; omega
    obtain rfl : k = 16 := by omega
    have hk1 : ¬ ((16 : Nat) : Int) < 16 := by decide
    have a21 := qadd_calls (f := 7) (c := 1) (id := 0) H11 (by decide)
    rw [kn_a, kn_q] at a21
    go_wp2_with fail
    refine a21.mono ?_
    rintro e w21 ⟨rfl, H21⟩
    clear a21
    have cc := qof_calls (f := 7) H21
    rw [kn_o] at cc
    go_wp2_with fail
    refine cc.mono ?_
    rintro e w' ⟨rfl, hw'⟩
    obtain rfl := hw'.symm
    clear cc hw'
    have dr := qdrop_calls (f := 7) H21
    rw [kn_o, kn_d] at dr
    go_wp2_with fail
    refine dr.mono ?_
    rintro e w22 ⟨rfl, H22⟩
    clear dr
    have a23 := qadd_calls (f := 7) (c := 1) (id := 9) H22 (by decide)
    rw [show adE knD 7 1 = 0 from rfl, show adQ knD 7 1 9 = knE from rfl] at a23
    go_wp2_with fail
    refine a23.mono ?_
    rintro e w23 ⟨rfl, H23⟩
    clear a23
    have tk := qtake_calls H23 (by decide)
    rw [show tkAt knE 0 = ⟨7, 1, 9, 1, 17⟩ from rfl, show tkIs knE 0 = true from rfl, show tkQ knE 0 = knF from rfl] at tk
    dsimp only at tk
    go_wp2_with fail
    refine tk.mono ?_
    rintro e w24 ⟨rfl, H24⟩
    clear tk
    have B24 := H24.alloc #[.int .i64 7, .int .i64 1, .int .u64 9] 35
    obtain ⟨gc, hgc⟩ : ∃ z, z = w24.heap.size := ⟨_, rfl⟩
    obtain ⟨v24, hv24⟩ : ∃ z, z = w24.alloc (.cells #[.int .i64 7, .int .i64 1, .int .u64 9] 35) := ⟨_, rfl⟩
    rw [← hgc, ← hv24] at B24
    have HG24 := hid hgc
    have HV24 := hid hv24
    clear hgc hv24 H24
    go_upto_region 18 with (fail)
    rw [← HG24.out, ← HV24.out]
    have x2 := B24.blkAt 2 rfl
    have cc := qtime_calls B24.up1
    rw [show knF.time = 1 from rfl] at cc
    go_wp2_with fail
    refine cc.mono ?_
    rintro e w' ⟨rfl, hw'⟩
    obtain rfl := hw'.symm
    clear cc hw'
    go_wp2_with fail
    refine (wakes_calls B24).mono ?_
    rintro e w25 ⟨rfl, H25⟩
    go_wp2
    go_ret
    exact ⟨rfl, H25.below⟩
end Go.Proofs.Ytkdoocgjagpcbaa
