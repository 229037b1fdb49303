/-
  Contract of cisternlaw07.alike, of two that hold the same counts.
-/
import Derived.Test.YtepooiiaijbljaaRefsG
namespace Go.Proofs.Ytepooiiaijbljaa
open Go.RowKit
set_option linter.unusedVariables false
set_option linter.unusedSimpArgs false
section
variable {w0 w : World} {O : Nat → Prop} {L : List Asr} {g h : Nat} {now was : List Int}
theorem cntAt_in {k : Nat} (hk : k < now.length) : cntAt now k = gat now k := by unfold cntAt; rw [if_neg (by omega), Int.toNat_natCast]
theorem frAt_in {k : Nat} (hk : k < now.length) : frAt now was k = (!(gat now k == 0) && gat was k == 0) := by unfold frAt; rw [if_neg (by omega), Int.toNat_natCast]

set_option maxHeartbeats 4000000 in
set_option maxRecDepth 10000 in
theorem alike_calls (HS : Sep w0 w O (refsA g now was :: docA h now was :: L)) :
    Calls Try.prog 29 #[.pointer (some ⟨g, 0, none⟩), .pointer (some ⟨h, 0, none⟩)] w fun e w' => e = .returned (.bool true) ∧ Sep w0 w' O (refsA g now was :: docA h now was :: L) := by
  obtain ⟨hok, -⟩ := HS.unrefs
  have HC := rcounts_calls HS
  have hhi := hok.hi
  obtain ⟨n, hn⟩ : ∃ n, n = now.length := ⟨_, rfl⟩
  rw [← hn] at HC hhi
  have HNN := hid hn
  have HOK := hid hok
  clear hok hn
  go_enter Try.func29, Try.ntmps29
  go_wp2_with fail
  refine HC.mono ?_
  rintro e w1 ⟨A, c, rfl, H1⟩
  clear HC HS
  obtain ⟨-, a0, a1, a2, c0, c1, c2, HD⟩ := H1.up2.undoc
  rw [← HNN.out] at HD
  have b0 := HD.blkAt 0 rfl
  have hEQ := equal_true (c := c) (d := c0) HD (Rb.i4 (A := A)) Rb.i1
  have hFR := rfree_calls H1.up1
  have hFD := dcount_calls H1.up2
  generalize (isOf now was).count true = cn at *
  clear HD
  go_wp2_with fail
  refine hEQ.mono ?_
  rintro e w2 ⟨rfl, rfl⟩
  go_wp2_with fail
  refine hFR.mono ?_
  rintro e w2 ⟨rfl, rfl⟩
  go_wp2_with fail
  refine hFD.mono ?_
  rintro e w2 ⟨rfl, rfl⟩
  go_wp2
  clear hEQ hFR hFD
  go_loopw [28] (fun i wr => ∃ (k : Nat) (xs : List Int), k ≤ n ∧ i = .int .i64 k ∧ Aside (xs.length = n) ∧ Sep w0 wr O (own 5 1 A n c (kv .u8 xs) :: refsA g now was :: docA h now was :: L)) (fun i _ => n - (intOf i).toNat)
  case atStart => exact ⟨0, now, Nat.zero_le _, rfl, ⟨HNN.out.symm⟩, H1⟩
  case round =>
    obtain ⟨k, xs, hk, rfl, hxl, H2⟩ := hrel
    clear H1 b0
    obtain ⟨-, a0, a1, a2, c0, c1, c2, HD⟩ := H2.up2.undoc
    rw [← HNN.out] at HD
    have b0 := HD.blkAt 0 rfl
    have b2 := HD.blkAt 2 rfl
    by_cases hlt : k < n
    · have hk1 : (k : Int) < n := by omega
      have hkn : k < now.length := by have := HNN.out; omega
      have hfl := frOf_len HOK.out.len
      have ck := HD.up1.kcell hkn HNN.out.symm
      rw [gat_int hkn] at ck
      have H5 := HD.up3
      rw [show n = (frOf now was).length by rw [hfl, ← HNN.out]] at H5
      have fk := H5.bcell (show k < (frOf now was).length by rw [hfl]; exact hkn)
      have hg := frOf_get HOK.out.len hkn
      rw [List.getElem?_eq_getElem (show k < (frOf now was).length by rw [hfl]; exact hkn)] at hg
      injection hg with hg
      rw [hg] at fk
      have hCT := fun q => rcount_calls (x := (k : Int)) (H2.up1.drewN q)
      have hFT := fun q => rfresh_calls (x := (k : Int)) (H2.up1.drewN q)
      rw [cntAt_in hkn] at hCT
      rw [frAt_in hkn] at hFT
      obtain ⟨g0, g1⟩ := gat_byt HOK.out.bn hkn
      have hw : IntKind.i64.wrap (gat now k) = gat now k := by rw [IntKind.wrap_i64]; omega
      generalize (!(gat now k == 0) && gat was k == 0) = fb at *
      generalize gat now k = y at *
      clear hg H5 hfl hkn HD g0 g1
      go_upto_region 7 with (fail)
      go_quiet (first
        | (go_at_call 21; exact Calls.quiet_of_same ((hCT _).mono fun _ _ h => ⟨h.1, h.2.symm⟩))
        | (go_at_call 12; exact Calls.quiet_of_same ((hFT _).mono fun _ _ h => ⟨h.1, h.2.symm⟩)))
      clear hCT hFT ck fk b0 b2
      obtain ⟨w6, hw6⟩ : ∃ w6, w6 = wr.drewN nq := ⟨_, rfl⟩
      have H6 : Sep w0 w6 O (own 5 1 A n c (kv .u8 xs) :: refsA g now was :: docA h now was :: L) := by rw [hw6]; exact H2.drewN nq
      rw [← hw6]
      clear hw6 H2
      obtain ⟨b, rfl⟩ := H6.own_some (by omega)
      have hkx : k < xs.length := by rw [hxl.out]; exact hlt
      have cx := H6.kcell hkx hxl.out
      have zx := H6.own_frozen k
      generalize xs[k] = u at cx
      have H7 := H6.own_set k (.int .u8 (bits .xor .u8 u 255))
      rw [kv_set] at H7
      clear H6 hkx
      go_wp2
      go_roundw
      case rel => exact ⟨k + 1, xs.set k (bits .xor .u8 u 255), by omega, by go_num, ⟨by rw [List.length_set]; exact hxl.out⟩, H7⟩
      case measure => simp [intOf]; omega
    · obtain rfl : k = n := by omega
      have hk1 : ¬ (k : Int) < k := by omega
      have e1 : cntAt now (-1) = 0 := by unfold cntAt; rw [if_pos (.inl (by decide))]
      have e2 : cntAt now (k : Int) = 0 := by unfold cntAt; rw [if_pos (.inr (by have := HNN.out; omega))]
      have e3 : frAt now was (-1) = false := by unfold frAt; rw [if_pos (.inl (by decide))]
      have e4 : frAt now was (k : Int) = false := by unfold frAt; rw [if_pos (.inr (by have := HNN.out; omega))]
      have h1 := rcount_calls (x := -1) H2.up1
      have h2 := rcount_calls (x := (k : Int)) H2.up1
      have h3 := rfresh_calls (x := -1) H2.up1
      have h4 := rfresh_calls (x := (k : Int)) H2.up1
      rw [e1] at h1
      rw [e2] at h2
      rw [e3] at h3
      rw [e4] at h4
      clear e1 e2 e3 e4 HD
      go_wp2_with fail
      refine h1.mono ?_
      rintro e w2 ⟨rfl, rfl⟩
      go_wp2_with fail
      refine h2.mono ?_
      rintro e w2 ⟨rfl, rfl⟩
      go_wp2_with fail
      refine h3.mono ?_
      rintro e w2 ⟨rfl, rfl⟩
      go_wp2_with fail
      refine h4.mono ?_
      rintro e w2 ⟨rfl, rfl⟩
      go_wp2
      go_ret
      exact ⟨rfl, H2.drop⟩
end
end Go.Proofs.Ytepooiiaijbljaa
