/-
  Contracts of cisternlaw07's own functions: awake, do.
-/
import Derived.Test.YtepooiiaijbljaaRefsD
import Derived.Test.YtepooiiaijbljaaView
namespace Go.Proofs.Ytepooiiaijbljaa
open Go.RowKit
set_option linter.unusedVariables false
set_option linter.unusedSimpArgs false
def doAt (now was : List Int) (wh : Int) : Int := if wh = 0 then (if takeErr (isOf now was) = 0 then (takeAt (isOf now was) : Nat) else -1) else -1
def doNow (now was : List Int) (wh x : Int) : List Int := if wh = 0 then alNow now was else if wh = 1 then inNow now x else if wh = 2 then deNow now x else if wh = 4 then was else now
def doWas (now was : List Int) (wh : Int) : List Int := if wh = 3 then now else was
section
variable {w0 w : World} {O : Nat → Prop} {L : List Asr} {g : Nat} {now was : List Int}

set_option maxHeartbeats 1000000 in
theorem do_calls {wh x : Int} (HS : Sep w0 w O (refsA g now was :: L)) :
    Calls Try.prog 11 #[.pointer (some ⟨g, 0, none⟩), .agg #[.int .i64 wh, .int .i64 x]] w fun e w' => e = .returned (.int .i64 (doAt now was wh)) ∧ Sep w0 w' O (refsA g (doNow now was wh x) (doWas now was wh) :: L) := by
  have HB := HS.alloc #[.int .i64 wh, .int .i64 x] 30
  obtain ⟨gb, hgb⟩ : ∃ gb, gb = w.heap.size := ⟨_, rfl⟩
  rw [← hgb] at HB
  have b1 := HB.blkAt 1 rfl
  have b0 := HB.blkAt 0 rfl
  have H := HB.up1
  have HG := hid hgb
  clear hgb HS
  obtain ⟨wb, hwb⟩ : ∃ wb, wb = w.alloc (.cells #[.int .i64 wh, .int .i64 x] 30) := ⟨_, rfl⟩
  rw [← hwb] at HB H b1 b0
  have HWB := hid hwb
  clear hwb
  go_enter Try.func11, Try.ntmps11
  go_upto_region 1 with (fail)
  rw [← HG.out, ← HWB.out]
  rcases (show wh = 0 ∨ wh = 1 ∨ wh = 2 ∨ wh = 3 ∨ wh = 4 ∨ (¬ wh = 0 ∧ ¬ wh = 1 ∧ ¬ wh = 2 ∧ ¬ wh = 3 ∧ ¬ wh = 4) by omega) with rfl | rfl | rfl | rfl | rfl | ⟨n0, n1, n2, n3, n4⟩
  · have hA := ralloc_calls H
    have e1 : doNow now was 0 x = alNow now was := rfl
    have e2 : doWas now was 0 = was := rfl
    rcases (show takeErr (isOf now was) = 0 ∨ takeErr (isOf now was) = 8 by unfold takeErr; split <;> simp) with h | h
    · have e3 : doAt now was 0 = (takeAt (isOf now was) : Nat) := by unfold doAt; rw [if_pos rfl, if_pos h]
      rw [h] at hA
      have E3 := hid e3
      generalize takeAt (isOf now was) = ta at *
      have HA := hid hA
      clear h hA e1 e2 e3
      go_wp2_with fail
      refine HA.out.mono ?_
      rintro e w' ⟨rfl, H2⟩
      go_wp2
      go_ret
      exact ⟨by rw [E3.out]; rfl, H2.sel 2 [0]⟩
    · have e3 : doAt now was 0 = -1 := by unfold doAt; rw [if_pos rfl, if_neg (by rw [h]; decide)]
      rw [h] at hA
      have E3 := hid e3
      generalize takeAt (isOf now was) = ta at *
      have HA := hid hA
      clear h hA e1 e2 e3
      go_wp2_with fail
      refine HA.out.mono ?_
      rintro e w' ⟨rfl, H2⟩
      go_wp2
      go_ret
      exact ⟨by rw [E3.out]; rfl, H2.sel 2 [0]⟩
  · go_wp2_with fail
    refine (rinc_calls (x := x) H).mono ?_
    rintro e w' ⟨rfl, H2⟩
    generalize inErr now x = E at *
    go_wp2
    go_ret
    exact ⟨rfl, H2.sel 2 [0]⟩
  · go_wp2_with fail
    refine (rdec_calls (x := x) H).mono ?_
    rintro e w' ⟨rfl, H2⟩
    generalize deGone now x = G at *
    generalize whyE now x = E at *
    go_wp2
    go_ret
    exact ⟨rfl, H2.sel 2 [0]⟩
  · go_wp2_with fail
    refine (rcommit_calls H).mono ?_
    rintro e w' ⟨rfl, H2⟩
    go_wp2
    go_ret
    exact ⟨rfl, H2.sel 2 [0]⟩
  · go_wp2_with fail
    refine (rabort_calls H).mono ?_
    rintro e w' ⟨rfl, H2⟩
    go_wp2
    go_ret
    exact ⟨rfl, H2.sel 2 [0]⟩
  · have e1 : doNow now was wh x = now := by unfold doNow; rw [if_neg n0, if_neg n1, if_neg n2, if_neg n4]
    have e2 : doWas now was wh = was := by unfold doWas; rw [if_neg n3]
    have e3 : doAt now was wh = -1 := by unfold doAt; rw [if_neg n0]
    have E1 := hid e1
    have E2 := hid e2
    have E3 := hid e3
    clear e1 e2 e3
    go_wp2
    go_ret
    exact ⟨by rw [E3.out]; rfl, by rw [E1.out, E2.out]; exact H.sel 2 [0]⟩

set_option maxHeartbeats 1000000 in
theorem awake_calls (HS : Sep w0 w O L) : Calls Try.prog 8 #[] w fun e w' => e = .returned (.bool true) ∧ Sep w0 w' O L := by
  have H0 := HS.lit #[.int .u8 1, .int .u8 0, .int .u8 2] 5 1 3 rfl (by decide)
  go_enter Try.func8, Try.ntmps8
  go_wp2_with fail
  refine (rnew_calls (l := [1, 0, 2]) H0 Rb.i0 (by decide) (by decide) (by decide)).mono ?_
  rintro e w1 ⟨g, rfl, H1⟩
  go_wp2_with fail
  refine (ralloc_calls H1).mono ?_
  rintro e w2 ⟨rfl, H2⟩
  rw [show ((takeAt (isOf [1, 0, 2] [1, 0, 2]) : Nat) : Int) = 1 from rfl, show takeErr (isOf [1, 0, 2] [1, 0, 2]) = 0 from rfl]
  replace H2 : Sep w0 w2 O (refsA g [1, 1, 2] [1, 0, 2] :: own 5 1 (some ⟨w.heap.size, 0, none⟩) 3 3 ((#[.int .u8 1, .int .u8 0, .int .u8 2] : Array Value).toList) :: L) := H2
  go_wp2_with fail
  refine (ralloc_calls H2).mono ?_
  rintro e w3 ⟨rfl, H3⟩
  rw [show ((takeAt (isOf [1, 1, 2] [1, 0, 2]) : Nat) : Int) = 0 from rfl, show takeErr (isOf [1, 1, 2] [1, 0, 2]) = 8 from rfl]
  replace H3 : Sep w0 w3 O (refsA g [1, 1, 2] [1, 0, 2] :: own 5 1 (some ⟨w.heap.size, 0, none⟩) 3 3 ((#[.int .u8 1, .int .u8 0, .int .u8 2] : Array Value).toList) :: L) := H3
  go_wp2_with fail
  refine (rdec_calls (x := 1) H3).mono ?_
  rintro e w4 ⟨rfl, H4⟩
  rw [show deGone [1, 1, 2] 1 = true from rfl, show whyE [1, 1, 2] 1 = 0 from rfl]
  replace H4 : Sep w0 w4 O (refsA g [1, 0, 2] [1, 0, 2] :: own 5 1 (some ⟨w.heap.size, 0, none⟩) 3 3 ((#[.int .u8 1, .int .u8 0, .int .u8 2] : Array Value).toList) :: L) := H4
  go_wp2_with fail
  refine (ralloc_calls H4).mono ?_
  rintro e w5 ⟨rfl, H5⟩
  rw [show ((takeAt (isOf [1, 0, 2] [1, 0, 2]) : Nat) : Int) = 1 from rfl, show takeErr (isOf [1, 0, 2] [1, 0, 2]) = 0 from rfl]
  replace H5 : Sep w0 w5 O (refsA g [1, 1, 2] [1, 0, 2] :: own 5 1 (some ⟨w.heap.size, 0, none⟩) 3 3 ((#[.int .u8 1, .int .u8 0, .int .u8 2] : Array Value).toList) :: L) := H5
  go_wp2_with fail
  refine (rdec_calls (x := 0) H5).mono ?_
  rintro e w6 ⟨rfl, H6⟩
  rw [show deGone [1, 1, 2] 0 = true from rfl, show whyE [1, 1, 2] 0 = 0 from rfl]
  replace H6 : Sep w0 w6 O (refsA g [0, 1, 2] [1, 0, 2] :: own 5 1 (some ⟨w.heap.size, 0, none⟩) 3 3 ((#[.int .u8 1, .int .u8 0, .int .u8 2] : Array Value).toList) :: L) := H6
  go_wp2_with fail
  refine (ralloc_calls H6).mono ?_
  rintro e w7 ⟨rfl, H7⟩
  rw [show ((takeAt (isOf [0, 1, 2] [1, 0, 2]) : Nat) : Int) = 0 from rfl, show takeErr (isOf [0, 1, 2] [1, 0, 2]) = 8 from rfl]
  replace H7 : Sep w0 w7 O (refsA g [0, 1, 2] [1, 0, 2] :: own 5 1 (some ⟨w.heap.size, 0, none⟩) 3 3 ((#[.int .u8 1, .int .u8 0, .int .u8 2] : Array Value).toList) :: L) := H7
  go_wp2_with fail
  refine (rcommit_calls H7).mono ?_
  rintro e w8 ⟨rfl, H8⟩
  go_wp2_with fail
  refine (ralloc_calls H8).mono ?_
  rintro e w9 ⟨rfl, H9⟩
  rw [show ((takeAt (isOf [0, 1, 2] [0, 1, 2]) : Nat) : Int) = 0 from rfl, show takeErr (isOf [0, 1, 2] [0, 1, 2]) = 0 from rfl]
  replace H9 : Sep w0 w9 O (refsA g [1, 1, 2] [0, 1, 2] :: own 5 1 (some ⟨w.heap.size, 0, none⟩) 3 3 ((#[.int .u8 1, .int .u8 0, .int .u8 2] : Array Value).toList) :: L) := H9
  go_wp2_with fail
  refine (rcounts_calls H9).mono ?_
  rintro e w10 ⟨A, c, rfl, H10⟩
  rw [show ([1, 1, 2] : List Int).length = 3 from rfl] at H10 ⊢
  have hs := run_stru (P := Try.prog) (c := c) (Rb.i0.read H10) 22 9 5 Try.underlying22 Try.underlying5 Try.underlying9
  rw [show strOfNums [1, 1, 2] = { data := #[1, 1, 2] } from by decide] at hs
  go_wp2
  go_ret
  exact ⟨rfl, H10.drop.drop.drop⟩
end
end Go.Proofs.Ytepooiiaijbljaa
