/-
  The walk of FreeKnown.
-/
import Derived.Test.YtdblokglldalnaaLaw06
import Derived.Test.YtdblokglldalnaaFreeN
namespace Go.Proofs.Ytdblokglldalnaa
open Go.RowKit
set_option linter.unusedVariables false
set_option linter.unusedSimpArgs false

set_option maxHeartbeats 8000000 in
set_option maxRecDepth 100000 in
theorem freeKnown_walk (w : World) :
    Calls Try.prog 6 #[] w fun e w' => e = .returned (.bool true) ∧ Below w.heap.size w w' := by
  have HS := Sep.start w
  go_enter Try.func6, Try.ntmps6
  go_wp2_with fail
  refine (newf_calls (m := 3) HS (by decide)).mono ?_
  rintro e w1 ⟨g, rfl, H1⟩
  replace H1 : Sep w w1 (fun _ => False) (space g [true, true, true] :: []) := H1
  go_wp2_with fail
  refine (claim_calls (x := 1) H1).mono ?_
  rintro e w2 ⟨rfl, H2⟩
  rw [show clErr [true, true, true] 1 = 0 from rfl]
  replace H2 : Sep w w2 (fun _ => False) (space g [true, false, true] :: []) := H2
  go_wp2_with fail
  refine (claim_calls (x := 1) H2).mono ?_
  rintro e w3 ⟨rfl, H3⟩
  rw [show clErr [true, false, true] 1 = 6 from rfl]
  replace H3 : Sep w w3 (fun _ => False) (space g [true, false, true] :: []) := H3
  go_wp2_with fail
  refine (give_calls (x := 2) H3).mono ?_
  rintro e w4 ⟨rfl, H4⟩
  rw [show gvErr [true, false, true] 2 = 7 from rfl]
  replace H4 : Sep w w4 (fun _ => False) (space g [true, false, true] :: []) := H4
  go_wp2_with fail
  refine (newf_calls (m := 0) H4 (by decide)).mono ?_
  rintro e w5 ⟨gz, rfl, H5⟩
  replace H5 : Sep w w5 (fun _ => False) (space gz [] :: space g [true, false, true] :: []) := H5
  go_wp2_with fail
  refine (take_calls H5).mono ?_
  rintro e w6 ⟨rfl, H6⟩
  rw [show ((takeAt [] : Nat) : Int) = 0 from rfl, show takeErr [] = 8 from rfl]
  replace H6 : Sep w w6 (fun _ => False) (space gz [] :: space g [true, false, true] :: []) := H6
  go_wp2_with fail
  refine (give_calls (x := 0) H6).mono ?_
  rintro e w7 ⟨rfl, H7⟩
  rw [show gvErr [] 0 = 1 from rfl]
  have H7 := H7.drop
  go_wp2_with fail
  refine take_nil.mono ?_
  rintro e w8 ⟨rfl, rfl⟩
  have H8 := H7.alloc zSpace 53
  obtain ⟨gq, hgq⟩ : ∃ gq, gq = w7.heap.size := ⟨_, rfl⟩
  rw [← hgq] at H8
  have HGQ := hid hgq
  clear hgq
  go_wp2_with fail
  rw [← HGQ.out]
  refine (take_zero H8).mono ?_
  rintro e w9 ⟨rfl, rfl⟩
  go_wp2_with fail
  refine (new_bad (x := -1) (by decide)).mono ?_
  rintro e w10 ⟨rfl, rfl⟩
  go_wp2_with fail
  refine (new_bad (x := 1025) (by decide)).mono ?_
  rintro e w10 ⟨rfl, rfl⟩
  go_wp2_with fail
  refine (newf_calls (m := 1024) H8 (by decide)).mono ?_
  rintro e w11 ⟨gb, rfl, H11⟩
  have hcb : ((List.replicate 1024 true).count true : Int) = 1024 := by rw [List.count_replicate_self]; rfl
  generalize List.replicate 1024 true = big at *
  go_wp2_with fail
  refine (awake_calls H11).mono ?_
  rintro e w12 ⟨rfl, H12⟩
  go_wp2_with fail
  refine (list_calls H12.up2).mono ?_
  rintro e w13 ⟨A13, c13, rfl, H13⟩
  rw [show (places [true, false, true]).length = 2 from rfl] at H13 ⊢
  replace H13 : Sep w w13 (fun _ => False) (own 3 1 A13 2 c13 (kv .i64 [0, 2]) :: space g [true, false, true] :: space gb big :: blk gq 53 zSpace :: []) := H13
  have H14 := H13.lit #[.int .i64 0, .int .i64 2] 3 1 2 rfl (by decide)
  go_wp2_with fail
  refine (same_true (xs := [0, 2]) H14 Rb.i1 Rb.i0 (by decide)).mono ?_
  rintro e w15 ⟨rfl, H15⟩
  go_wp2_with fail
  refine claim_nil.mono ?_
  rintro e w16 ⟨rfl, rfl⟩
  go_wp2_with fail
  refine (give_zero H15.up4).mono ?_
  rintro e w16 ⟨rfl, rfl⟩
  go_wp2_with fail
  refine free_nil.mono ?_
  rintro e w16 ⟨rfl, rfl⟩
  go_wp2_with fail
  refine list_nil.mono ?_
  rintro e w16 ⟨rfl, rfl⟩
  go_wp2_with fail
  refine copy_nil.mono ?_
  rintro e w16 ⟨rfl, rfl⟩
  go_wp2_with fail
  refine (free_calls H15.up3).mono ?_
  rintro e w17 ⟨rfl, rfl⟩
  rw [hcb]
  go_wp2
  go_ret
  exact ⟨rfl, H15.below⟩
end Go.Proofs.Ytdblokglldalnaa
