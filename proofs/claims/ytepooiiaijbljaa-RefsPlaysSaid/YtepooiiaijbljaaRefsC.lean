/-
  Contracts of Refs: Inc, Dec, Count, Fresh, Free, Counts, Commit, Abort, Copy, Become.
-/
import Derived.Test.YtepooiiaijbljaaRefsB
namespace Go.Proofs.Ytepooiiaijbljaa
open Go.RowKit
set_option linter.unusedVariables false
set_option linter.unusedSimpArgs false
section
variable {w0 w : World} {O : Nat → Prop} {L : List Asr} {g : Nat} {now was : List Int}

theorem rdoes_calls {f : FuncId} {Q : Ending → World → Prop} {x : Int} (HS : Sep w0 w O (refsA g now was :: L)) (hf : ∀ args w, (callFunc f args).run Try.prog w = .ok (.enter f args) w)
    (hbad : ¬ whyE now x = 0 → Q (.returned (.int .i64 (whyE now x))) w) (hc : whyE now x = 0 → Calls Try.prog f #[.pointer (some ⟨g, 0, none⟩), .int .i64 x] w fun e w' => ∃ v, e = .returned v ∧ Q (.returned v) w') :
    Calls Try.prog 35 #[.pointer (some ⟨g, 0, none⟩), .int .i64 x, .func (.func f) #[] #[]] w Q := by
  have hR := rright_refs HS
  obtain ⟨hok, a0, a1, a2, c0, c1, c2, gs, H⟩ := HS.unrefs
  have b0 := H.blkAt 0 rfl
  have HBAD := hid hbad
  have HC := hid hc
  clear hbad hc
  go_enter Try.func35, Try.ntmps35
  go_wp2_with fail
  refine hR.mono ?_
  rintro e w' ⟨rfl, rfl⟩
  clear hR HS
  by_cases h0 : x < 0
  · have e1 : whyE now x = 1 := by unfold whyE; rw [if_pos (.inl h0)]
    have hq := HBAD.out (by rw [e1]; decide)
    rw [e1] at hq
    have HQ := hid hq
    clear e1 hq
    go_wp2
    exact HQ.out
  · by_cases h1 : (now.length : Int) ≤ x
    · have e1 : whyE now x = 1 := by unfold whyE; rw [if_pos (.inr h1)]
      have hq := HBAD.out (by rw [e1]; decide)
      rw [e1] at hq
      have HQ := hid hq
      clear e1 hq
      go_wp2
      exact HQ.out
    · obtain ⟨k, rfl⟩ := Int.eq_ofNat_of_zero_le (show 0 ≤ x by omega)
      have hk : k < now.length := by omega
      have hk1 : (k : Int) < now.length := by omega
      have ck := H.up1.kcell hk rfl
      rw [gat_int hk] at ck
      have hr : ¬ ((k : Int) < 0 ∨ (now.length : Int) ≤ k) := by omega
      by_cases hz : gat now k = 0
      · have e1 : whyE now k = 6 := by unfold whyE; rw [if_neg hr, Int.toNat_natCast, if_pos hz]
        have hq := HBAD.out (by rw [e1]; decide)
        rw [e1] at hq
        have HQ := hid hq
        rw [hz] at ck
        clear e1 hz hq
        go_wp2
        exact HQ.out
      · have e1 : whyE now k = 0 := by unfold whyE; rw [if_neg hr, Int.toNat_natCast, if_neg hz]
        have H2 := hid (HC.out e1)
        have hb : (gat now k == 0) = false := beq_eq_false_iff_ne.2 hz
        generalize gat now k = y at *
        clear e1
        go_wp2_with fail
        refine H2.out.mono ?_
        rintro e w' ⟨v, rfl, hq⟩
        go_wp2
        exact hq
theorem whyE_ok {x : Int} (h : whyE now x = 0) : ∃ k : Nat, x = k ∧ k < now.length ∧ ¬ gat now k = 0 := by
  unfold whyE at h
  by_cases hr : x < 0 ∨ (now.length : Int) ≤ x
  · rw [if_pos hr] at h; cases h
  · rw [if_neg hr] at h
    obtain ⟨k, rfl⟩ := Int.eq_ofNat_of_zero_le (show 0 ≤ x by omega)
    rw [Int.toNat_natCast] at h
    refine ⟨k, rfl, by omega, fun hz => ?_⟩
    rw [if_pos hz] at h; cases h
theorem rinc_calls {x : Int} (HS : Sep w0 w O (refsA g now was :: L)) :
    Calls Try.prog 18 #[.pointer (some ⟨g, 0, none⟩), .int .i64 x] w fun e w' => e = .returned (.int .i64 (inErr now x)) ∧ Sep w0 w' O (refsA g (inNow now x) was :: L) := by
  have hD := rdoes_calls (f := 39) (x := x) (Q := fun e w' => e = .returned (.int .i64 (inErr now x)) ∧ Sep w0 w' O (refsA g (inNow now x) was :: L)) HS (fun _ _ => by kernel_rfl) (fun h => by
    have e1 : inErr now x = whyE now x := by unfold inErr; rw [if_pos h]
    have e2 : inNow now x = now := by unfold inNow; rw [e1, if_neg h]
    rw [e1, e2]; exact ⟨rfl, HS⟩) (fun h => by
    obtain ⟨k, rfl, hk, hz⟩ := whyE_ok h
    refine (rmore_calls HS hk hz).mono ?_
    rintro e w' ⟨rfl, H⟩
    have e1 : inErr now k = if gat now k = 255 then 8 else 0 := by unfold inErr; rw [if_neg (by rw [h]; simp), Int.toNat_natCast]
    have e2 : inNow now k = if gat now k = 255 then now else now.set k (gat now k + 1) := by
      unfold inNow; rw [e1]
      by_cases h2 : gat now k = 255
      · rw [if_pos h2, if_pos h2, if_neg (by decide)]
      · rw [if_neg h2, if_neg h2, if_pos rfl, Int.toNat_natCast]
    rw [e1, e2]
    exact ⟨_, rfl, rfl, H⟩)
  generalize inErr now x = E at *
  generalize inNow now x = J at *
  go_enter Try.func18, Try.ntmps18
  go_wp2_with fail
  refine hD.mono ?_
  rintro e w' ⟨rfl, H⟩
  go_wp2
  go_ret
  exact ⟨rfl, H⟩
theorem rdec_calls {x : Int} (HS : Sep w0 w O (refsA g now was :: L)) :
    Calls Try.prog 15 #[.pointer (some ⟨g, 0, none⟩), .int .i64 x] w fun e w' => e = .returned (.tuple #[.bool (deGone now x), .int .i64 (whyE now x)]) ∧ Sep w0 w' O (refsA g (deNow now x) was :: L) := by
  have hD := rdoes_calls (f := 36) (x := x) (Q := fun e w' => e = .returned (.int .i64 (whyE now x)) ∧ Sep w0 w' O (refsA g (deNow now x) was :: L)) HS (fun _ _ => by kernel_rfl) (fun h => by
    have e2 : deNow now x = now := by unfold deNow; rw [if_neg h]
    rw [e2]; exact ⟨rfl, HS⟩) (fun h => by
    obtain ⟨k, rfl, hk, hz⟩ := whyE_ok h
    refine (rless_calls HS hk hz).mono ?_
    rintro e w' ⟨rfl, H⟩
    have e2 : deNow now k = now.set k (gat now k - 1) := by unfold deNow; rw [if_pos h, Int.toNat_natCast]
    rw [e2]
    exact ⟨_, rfl, by rw [h], H⟩)
  by_cases h : whyE now x = 0
  · obtain ⟨k, rfl, hk, hz⟩ := whyE_ok h
    have e2 : deNow now k = now.set k (gat now k - 1) := by unfold deNow; rw [if_pos h, Int.toNat_natCast]
    have e3 : deGone now k = decide (gat now k - 1 = 0) := by unfold deGone; rw [h, Int.toNat_natCast]; simp
    rw [e2, h] at hD
    rw [e2, e3, h]
    have hk1 : (k : Int) < now.length := by omega
    have HD := hid hD
    clear hD e2 e3 h HS hz
    go_enter Try.func15, Try.ntmps15
    go_wp2_with fail
    refine HD.out.mono ?_
    rintro e w' ⟨rfl, H⟩
    obtain ⟨hok, a0, a1, a2, c0, c1, c2, gs, H2⟩ := H.unrefs
    have hsl : k < (now.set k (gat now k - 1)).length := by rw [List.length_set]; exact hk
    have dk := H2.up1.kcell hsl rfl
    rw [List.getElem_set_self] at dk
    have b0 := H2.blkAt 0 rfl
    rw [List.length_set] at b0
    by_cases hz : gat now k - 1 = 0
    · have HD2 := hid (decide_eq_true hz)
      rw [hz] at dk
      clear hz H2 hok
      go_wp2
      go_ret2
      exact ⟨by rw [HD2.out]; rfl, H⟩
    · have hb : (gat now k - 1 == 0) = false := beq_eq_false_iff_ne.2 hz
      have HD2 := hid (decide_eq_false hz)
      obtain ⟨y, hy⟩ : ∃ y, y = gat now k - 1 := ⟨_, rfl⟩
      rw [← hy] at dk hb
      clear hz H2 hok hy
      go_wp2
      go_ret2
      exact ⟨by rw [HD2.out]; rfl, H⟩
  · have e2 : deNow now x = now := by unfold deNow; rw [if_neg h]
    have e3 : deGone now x = false := by unfold deGone; rw [decide_eq_false h]; rfl
    have hb : (whyE now x == 0) = false := beq_eq_false_iff_ne.2 h
    rw [e2] at hD
    rw [e2, e3]
    generalize whyE now x = E at *
    have HD := hid hD
    clear hD e2 e3 h HS
    go_enter Try.func15, Try.ntmps15
    go_wp2_with fail
    refine HD.out.mono ?_
    rintro e w' ⟨rfl, H⟩
    go_wp2
    go_ret2
    exact ⟨rfl, H⟩
theorem rcount_calls {x : Int} (HS : Sep w0 w O (refsA g now was :: L)) :
    Calls Try.prog 21 #[.pointer (some ⟨g, 0, none⟩), .int .i64 x] w fun e w' => e = .returned (.int .i64 (cntAt now x)) ∧ w = w' := by
  have hR := rright_refs HS
  obtain ⟨hok, a0, a1, a2, c0, c1, c2, gs, H⟩ := HS.unrefs
  have b0 := H.blkAt 0 rfl
  go_enter Try.func21, Try.ntmps21
  go_wp2_with fail
  refine hR.mono ?_
  rintro e w' ⟨rfl, rfl⟩
  clear hR HS
  by_cases h0 : x < 0
  · have e1 : cntAt now x = 0 := by unfold cntAt; rw [if_pos (.inl h0)]
    have E1 := hid e1
    clear e1
    go_wp2
    go_ret
    exact ⟨by rw [E1.out]; rfl, rfl⟩
  · by_cases h1 : (now.length : Int) ≤ x
    · have e1 : cntAt now x = 0 := by unfold cntAt; rw [if_pos (.inr h1)]
      have E1 := hid e1
      clear e1
      go_wp2
      go_ret
      exact ⟨by rw [E1.out]; rfl, rfl⟩
    · obtain ⟨k, rfl⟩ := Int.eq_ofNat_of_zero_le (show 0 ≤ x by omega)
      have hk : k < now.length := by omega
      have hk1 : (k : Int) < now.length := by omega
      have ck := H.up1.kcell hk rfl
      rw [gat_int hk] at ck
      have e1 : cntAt now k = gat now k := by unfold cntAt; rw [if_neg (by omega), Int.toNat_natCast]
      have E1 := hid e1
      obtain ⟨g0, g1⟩ := gat_byt hok.bn hk
      have hw : IntKind.i64.wrap (gat now k) = gat now k := by rw [IntKind.wrap_i64]; omega
      clear e1
      generalize gat now k = y at *
      go_wp2
      go_ret
      exact ⟨by rw [E1.out]; rfl, rfl⟩
theorem rfresh_calls {x : Int} (HS : Sep w0 w O (refsA g now was :: L)) :
    Calls Try.prog 12 #[.pointer (some ⟨g, 0, none⟩), .int .i64 x] w fun e w' => e = .returned (.bool (frAt now was x)) ∧ w = w' := by
  have hR := rright_refs HS
  obtain ⟨hok, a0, a1, a2, c0, c1, c2, gs, H⟩ := HS.unrefs
  have b0 := H.blkAt 0 rfl
  have b2 := H.blkAt 2 rfl
  go_enter Try.func12, Try.ntmps12
  go_wp2_with fail
  refine hR.mono ?_
  rintro e w' ⟨rfl, rfl⟩
  clear hR HS
  by_cases h0 : x < 0
  · have e1 : frAt now was x = false := by unfold frAt; rw [if_pos (.inl h0)]
    have E1 := hid e1
    have h0' : ¬ 0 ≤ x := by omega
    clear e1
    go_wp2
    go_ret
    exact ⟨by rw [E1.out]; rfl, rfl⟩
  · by_cases h1 : (now.length : Int) ≤ x
    · have e1 : frAt now was x = false := by unfold frAt; rw [if_pos (.inr h1)]
      have E1 := hid e1
      have h0' : 0 ≤ x := by omega
      have h1' : ¬ x < (now.length : Int) := by omega
      clear e1
      go_wp2
      go_ret
      exact ⟨by rw [E1.out]; rfl, rfl⟩
    · obtain ⟨k, rfl⟩ := Int.eq_ofNat_of_zero_le (show 0 ≤ x by omega)
      have hk : k < now.length := by omega
      have hk1 : (k : Int) < now.length := by omega
      have hfl := frOf_len hok.len
      have H5 := H.up3
      rw [show now.length = (frOf now was).length by rw [hfl]] at H5
      have fk := H5.bcell (show k < (frOf now was).length by omega)
      have hg := frOf_get hok.len hk
      rw [List.getElem?_eq_getElem (show k < (frOf now was).length by omega)] at hg
      injection hg with hg
      rw [hg] at fk
      have e1 : frAt now was k = (!(gat now k == 0) && gat was k == 0) := by unfold frAt; rw [if_neg (by omega), Int.toNat_natCast]
      have E1 := hid e1
      generalize (!(gat now k == 0) && gat was k == 0) = y at *
      clear e1 hg H5
      go_wp2
      go_ret
      exact ⟨by rw [E1.out]; rfl, rfl⟩
theorem rfree_calls (HS : Sep w0 w O (refsA g now was :: L)) :
    Calls Try.prog 10 #[.pointer (some ⟨g, 0, none⟩)] w fun e w' => e = .returned (.int .i64 ((isOf now was).count true)) ∧ w = w' := by
  have hR := rright_refs HS
  obtain ⟨hok, a0, a1, a2, c0, c1, c2, gs, H⟩ := HS.unrefs
  have b3 := H.blkAt 3 rfl
  have hF := free_calls H.up4
  generalize (isOf now was).count true = cn at *
  go_enter Try.func10, Try.ntmps10
  go_wp2_with fail
  refine hR.mono ?_
  rintro e w' ⟨rfl, rfl⟩
  clear hR HS
  go_wp2_with fail
  refine hF.mono ?_
  rintro e w' ⟨rfl, rfl⟩
  go_wp2
  go_ret
  exact ⟨rfl, rfl⟩
theorem rcounts_calls (HS : Sep w0 w O (refsA g now was :: L)) :
    Calls Try.prog 9 #[.pointer (some ⟨g, 0, none⟩)] w fun e w' => ∃ A c, e = .returned (.slice A now.length c) ∧ Sep w0 w' O (own 5 1 A now.length c (kv .u8 now) :: refsA g now was :: L) := by
  have hR := rright_refs HS
  obtain ⟨hok, a0, a1, a2, c0, c1, c2, gs, H⟩ := HS.unrefs
  have b0 := H.blkAt 0 rfl
  have hhi := hok.hi
  have HOK := hid hok
  clear hok
  go_enter Try.func9, Try.ntmps9
  go_wp2_with fail
  refine hR.mono ?_
  rintro e w' ⟨rfl, rfl⟩
  clear hR HS
  go_wp2_with fail
  refine (cloneu_calls H Rb.i1 (by omega)).mono ?_
  rintro e w1 ⟨A, c, rfl, H1⟩
  go_wp2
  go_ret
  exact ⟨A, c, rfl, (Sep.refsd HOK.out rfl rfl rfl (H1.sel 6 [1, 2, 3, 4, 5, 0])).up1⟩
theorem rcommit_calls (HS : Sep w0 w O (refsA g now was :: L)) :
    Calls Try.prog 19 #[.pointer (some ⟨g, 0, none⟩)] w fun e w' => e = .returned (.int .i64 0) ∧ Sep w0 w' O (refsA g now now :: L) := by
  have hR := rright_refs HS
  obtain ⟨hok, a0, a1, a2, c0, c1, c2, gs, H⟩ := HS.unrefs
  have hS := settle_n hok rfl rfl (H.sel 5 [0, 1, 2])
  have HST := hid hS
  clear hS hok H
  go_enter Try.func19, Try.ntmps19
  go_wp2_with fail
  refine hR.mono ?_
  rintro e w' ⟨rfl, rfl⟩
  clear hR HS
  go_wp2_with fail
  refine HST.out.mono ?_
  rintro e w1 ⟨rfl, H1⟩
  go_wp2
  go_ret
  exact ⟨rfl, H1⟩

set_option maxHeartbeats 1000000 in
theorem rabort_calls (HS : Sep w0 w O (refsA g now was :: L)) :
    Calls Try.prog 16 #[.pointer (some ⟨g, 0, none⟩)] w fun e w' => e = .returned (.int .i64 0) ∧ Sep w0 w' O (refsA g was was :: L) := by
  have hR := rright_refs HS
  obtain ⟨hok, a0, a1, a2, c0, c1, c2, gs, H⟩ := HS.unrefs
  have b0 := H.drew.blkAt 0 rfl
  have b1 := H.drew.blkAt 1 rfl
  have hlo := hok.lo
  have H1 : Sep w0 w.drew O (own 5 1 (some ⟨a0, 0, none⟩) now.length c0 (kv .u8 now) :: own 5 1 (some ⟨a1, 0, none⟩) now.length c1 (kv .u8 was) :: blk g 61 #[.slice (some ⟨a0, 0, none⟩) now.length c0, .slice (some ⟨a1, 0, none⟩) now.length c1, .slice (some ⟨a2, 0, none⟩) now.length c2, .pointer (some ⟨gs, 0, none⟩)] :: L) := H.drew.sel 5 [1, 2, 0]
  obtain ⟨w1, hcp, H2⟩ := H1.copied (c2 := c1) Rb.i1 (by omega)
  have hS := settle_n (abort_ok hok) hok.len.symm hok.len.symm (H2.sel 3 [2, 0, 1])
  have HST := hid hS
  clear hS hok H H1 H2
  go_enter Try.func16, Try.ntmps16
  go_wp2_with fail
  refine hR.mono ?_
  rintro e w' ⟨rfl, rfl⟩
  clear hR HS
  go_upto_region 3 with (fail)
  go_region_law (fail)
  all_goals
    go_wp2_with fail
    refine HST.out.mono ?_
    rintro e w1 ⟨rfl, H1⟩
    go_wp2
    go_ret
    exact ⟨rfl, H1⟩
end
end Go.Proofs.Ytepooiiaijbljaa
