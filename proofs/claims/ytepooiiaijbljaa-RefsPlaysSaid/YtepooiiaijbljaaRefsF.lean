/-
  Contracts of the document's Refs (cisternref07): why, Inc, Dec, Free, Commit, Abort.
-/
import Derived.Test.YtepooiiaijbljaaRefsE
namespace Go.Proofs.Ytepooiiaijbljaa
open Go.RowKit
set_option linter.unusedVariables false
set_option linter.unusedSimpArgs false
section
variable {w0 w : World} {O : Nat → Prop} {L : List Asr} {g : Nat} {now was : List Int}
theorem dwhy_calls {x : Int} (HS : Sep w0 w O (docA g now was :: L)) :
    Calls Try.prog 42 #[.pointer (some ⟨g, 0, none⟩), .int .i64 x] w fun e w' => e = .returned (.int .i64 (whyE now x)) ∧ w = w' := by
  obtain ⟨hok, a0, a1, a2, c0, c1, c2, H⟩ := HS.undoc
  have b0 := H.blkAt 0 rfl
  by_cases h0 : x < 0
  · have e1 : whyE now x = 1 := by unfold whyE; rw [if_pos (.inl h0)]
    rw [e1]
    clear e1
    go_enter Try.func42, Try.ntmps42
    go_wp2
    go_ret
    exact ⟨rfl, rfl⟩
  · by_cases h1 : (now.length : Int) ≤ x
    · have e1 : whyE now x = 1 := by unfold whyE; rw [if_pos (.inr h1)]
      rw [e1]
      clear e1
      go_enter Try.func42, Try.ntmps42
      go_wp2
      go_ret
      exact ⟨rfl, rfl⟩
    · obtain ⟨k, rfl⟩ := Int.eq_ofNat_of_zero_le (show 0 ≤ x by omega)
      have hk : k < now.length := by omega
      have hk1 : (k : Int) < now.length := by omega
      have ck := H.up1.kcell hk rfl
      rw [gat_int hk] at ck
      have hr : ¬ ((k : Int) < 0 ∨ (now.length : Int) ≤ k) := by omega
      by_cases hz : gat now k = 0
      · have e1 : whyE now k = 6 := by unfold whyE; rw [if_neg hr, Int.toNat_natCast, if_pos hz]
        rw [e1]
        rw [hz] at ck
        clear e1 hz hok
        go_enter Try.func42, Try.ntmps42
        go_wp2
        go_ret
        exact ⟨rfl, rfl⟩
      · have e1 : whyE now k = 0 := by unfold whyE; rw [if_neg hr, Int.toNat_natCast, if_neg hz]
        rw [e1]
        have hb : (gat now k == 0) = false := beq_eq_false_iff_ne.2 hz
        generalize gat now k = y at *
        clear e1 hok
        go_enter Try.func42, Try.ntmps42
        go_wp2
        go_ret
        exact ⟨rfl, rfl⟩

set_option maxHeartbeats 1000000 in
theorem dinc_calls {x : Int} (HS : Sep w0 w O (docA g now was :: L)) :
    Calls Try.prog 24 #[.pointer (some ⟨g, 0, none⟩), .int .i64 x] w fun e w' => e = .returned (.int .i64 (inErr now x)) ∧ Sep w0 w' O (docA g (inNow now x) was :: L) := by
  have hW := dwhy_calls (x := x) HS
  by_cases h : whyE now x = 0
  · obtain ⟨k, rfl, hk, hz⟩ := whyE_ok h
    obtain ⟨hok, a0, a1, a2, c0, c1, c2, H⟩ := HS.undoc
    have b0 := H.blkAt 0 rfl
    have ck := H.up1.kcell hk rfl
    rw [gat_int hk] at ck
    have zk := H.up1.own_frozen k
    have hk1 : (k : Int) < now.length := by omega
    obtain ⟨g0, g1⟩ := gat_byt hok.bn hk
    have e1 : inErr now k = if gat now k = 255 then 8 else 0 := by unfold inErr; rw [if_neg (by rw [h]; simp), Int.toNat_natCast]
    rw [h] at hW
    by_cases h255 : gat now k = 255
    · rw [if_pos h255] at e1
      have e2 : inNow now k = now := by unfold inNow; rw [e1, if_neg (by decide)]
      rw [e1, e2]
      rw [h255] at ck
      have HW := hid hW
      clear h255 g0 g1 hz hok H e1 e2 h hW
      go_enter Try.func24, Try.ntmps24
      go_wp2_with fail
      refine HW.out.mono ?_
      rintro e w1 ⟨rfl, rfl⟩
      go_wp2
      go_ret
      exact ⟨rfl, HS⟩
    · rw [if_neg h255] at e1
      have e2 : inNow now k = now.set k (gat now k + 1) := by unfold inNow; rw [e1, if_pos rfl, Int.toNat_natCast]
      rw [e1, e2]
      obtain ⟨s1, s2, s3⟩ := keep_step hok hk (x := gat now k + 1) (by omega) (by
        rw [beq_eq_false_iff_ne.2 (show gat now k + 1 ≠ 0 by omega), beq_eq_false_iff_ne.2 hz])
      have H4 := H.up1.own_set k (.int .u8 (gat now k + 1))
      rw [kv_set] at H4
      have hb : (gat now k == 255) = false := beq_eq_false_iff_ne.2 h255
      have hw : IntKind.u8.wrap (gat now k + 1) = gat now k + 1 := by rw [IntKind.wrap_u8]; omega
      generalize gat now k = y at *
      have HS2 := hid s2
      have HS3 := hid s3
      have HW := hid hW
      clear s1 s2 s3 HS H hok e1 e2 h hW g0 g1 hz
      go_enter Try.func24, Try.ntmps24
      go_wp2_with fail
      refine HW.out.mono ?_
      rintro e w1 ⟨rfl, rfl⟩
      go_wp2
      go_ret
      refine ⟨rfl, Sep.docd (now := now.set k (y + 1)) (A0 := some ⟨a0, 0, none⟩) (A1 := some ⟨a1, 0, none⟩) (A2 := some ⟨a2, 0, none⟩) (c0 := c0) (c1 := c1) (c2 := c2) HS3.out (by rw [List.length_set]) (by rw [List.length_set]) (by rw [List.length_set]) ?_⟩
      rw [HS2.out]
      exact H4.up1
  · have e1 : inErr now x = whyE now x := by unfold inErr; rw [if_pos h]
    have e2 : inNow now x = now := by unfold inNow; rw [e1, if_neg h]
    rw [e1, e2]
    have hb : (whyE now x == 0) = false := beq_eq_false_iff_ne.2 h
    generalize whyE now x = E at *
    clear e1 e2 h
    go_enter Try.func24, Try.ntmps24
    go_wp2_with fail
    refine hW.mono ?_
    rintro e w1 ⟨rfl, rfl⟩
    go_wp2
    go_ret
    exact ⟨rfl, HS⟩

set_option maxHeartbeats 1000000 in
theorem ddec_calls {x : Int} (HS : Sep w0 w O (docA g now was :: L)) :
    Calls Try.prog 25 #[.pointer (some ⟨g, 0, none⟩), .int .i64 x] w fun e w' => e = .returned (.tuple #[.bool (deGone now x), .int .i64 (whyE now x)]) ∧ Sep w0 w' O (docA g (deNow now x) was :: L) := by
  have hW := dwhy_calls (x := x) HS
  by_cases h : whyE now x = 0
  · obtain ⟨k, rfl, hk, h1⟩ := whyE_ok h
    obtain ⟨hok, a0, a1, a2, c0, c1, c2, H⟩ := HS.undoc
    have b0 := H.blkAt 0 rfl
    have ck := H.up1.kcell hk rfl
    rw [gat_int hk] at ck
    have zk := H.up1.own_frozen k
    have hk1 : (k : Int) < now.length := by omega
    obtain ⟨g0, g1⟩ := gat_byt hok.bn hk
    have e2 : deNow now k = now.set k (gat now k - 1) := by unfold deNow; rw [if_pos h, Int.toNat_natCast]
    have e3 : deGone now k = decide (gat now k - 1 = 0) := by unfold deGone; rw [h, Int.toNat_natCast]; simp
    rw [h] at hW
    rw [e2, e3, h]
    have H4 := H.up1.own_set k (.int .u8 (gat now k - 1))
    rw [kv_set] at H4
    have hw : IntKind.u8.wrap (gat now k - 1) = gat now k - 1 := by rw [IntKind.wrap_u8]; omega
    have e0 := H4.up1.blkAt 0 rfl
    have f2 := H4.up1.blkAt 2 rfl
    have hsl : k < (now.set k (gat now k - 1)).length := by rw [List.length_set]; exact hk
    have dk := H4.kcell hsl (by rw [List.length_set])
    rw [List.getElem_set_self] at dk
    have hfl := frOf_len hok.len
    have H5 := H4.up3
    by_cases hz : gat now k - 1 = 0
    · obtain ⟨hy, hn, hok2⟩ := gone_step hok hk h1
      have e4 : frOf (now.set k 0) was = (frOf now was).set k false := by
        by_cases hws : gat was k = 0
        · exact (hy hws).2.2.1
        · obtain ⟨q1, q2, q3⟩ := hn hws
          rw [q3, set_same q1]
      rw [decide_eq_true hz]
      rw [hz] at H4 H5 dk hw e0 f2 ⊢
      have hg1 : gat now k = 1 := by omega
      rw [hg1] at ck
      have H5' := H5
      rw [show now.length = (frOf now was).length by rw [hfl]] at H5'
      have fk := H5'.bcell (show k < (frOf now was).length by omega)
      have fz := H5'.own_frozen k
      have H6 := H5'.bset k false
      rw [hfl] at H6
      have q0 := H6.up2.blkAt 0 rfl
      have q1 : _ := H6.up1
      have H7 := H6.sel 4 [2, 1, 3, 0]
      have dk2 := H7.up1.kcell (show k < (now.set k 0).length by rw [List.length_set]; exact hk) (by rw [List.length_set])
      rw [List.getElem_set_self] at dk2
      have HF := hid e4
      have HOK := hid hok2
      have HW := hid hW
      clear e4 hy hn hok hok2 H4 H5 H5' H HS g0 g1 h1 hz hg1 hsl e2 e3 h hW H6 q1
      go_enter Try.func25, Try.ntmps25
      go_wp2_with fail
      refine HW.out.mono ?_
      rintro e w1 ⟨rfl, rfl⟩
      go_wp2
      go_ret2
      refine ⟨rfl, Sep.docd (now := now.set k 0) (A0 := some ⟨a0, 0, none⟩) (A1 := some ⟨a1, 0, none⟩) (A2 := some ⟨a2, 0, none⟩) (c0 := c0) (c1 := c1) (c2 := c2) HOK.out (by rw [List.length_set]) (by rw [List.length_set]) (by rw [List.length_set]) ?_⟩
      rw [HF.out]
      exact H7
    · obtain ⟨s1, s2, s3⟩ := keep_step hok hk (x := gat now k - 1) (by omega) (by
        rw [beq_eq_false_iff_ne.2 hz, beq_eq_false_iff_ne.2 h1])
      have hb : (gat now k - 1 == 0) = false := beq_eq_false_iff_ne.2 hz
      rw [decide_eq_false hz]
      have HS2 := hid s2
      have HS3 := hid s3
      have HW := hid hW
      clear e2 e3
      generalize gat now k = x at *
      clear s1 s2 s3 HS H hok H5 g0 g1 h1 hsl hz h hW
      go_enter Try.func25, Try.ntmps25
      go_wp2_with fail
      refine HW.out.mono ?_
      rintro e w1 ⟨rfl, rfl⟩
      go_wp2
      go_ret2
      refine ⟨by first | rfl | (rw [hb]; rfl), Sep.docd (now := now.set k (x - 1)) (A0 := some ⟨a0, 0, none⟩) (A1 := some ⟨a1, 0, none⟩) (A2 := some ⟨a2, 0, none⟩) (c0 := c0) (c1 := c1) (c2 := c2) HS3.out (by rw [List.length_set]) (by rw [List.length_set]) (by rw [List.length_set]) ?_⟩
      rw [HS2.out]
      exact H4.up1
  · have e2 : deNow now x = now := by unfold deNow; rw [if_neg h]
    have e3 : deGone now x = false := by unfold deGone; rw [decide_eq_false h]; rfl
    have hb : (whyE now x == 0) = false := beq_eq_false_iff_ne.2 h
    rw [e2, e3]
    generalize whyE now x = E at *
    clear e2 e3 h
    go_enter Try.func25, Try.ntmps25
    go_wp2_with fail
    refine hW.mono ?_
    rintro e w1 ⟨rfl, rfl⟩
    go_wp2
    go_ret2
    exact ⟨rfl, HS⟩

theorem dcount_calls (HS : Sep w0 w O (docA g now was :: L)) :
    Calls Try.prog 43 #[.pointer (some ⟨g, 0, none⟩)] w fun e w' => e = .returned (.int .i64 ((isOf now was).count true)) ∧ w = w' := by
  obtain ⟨hok, a0, a1, a2, c0, c1, c2, H⟩ := HS.undoc
  have b0 := H.blkAt 0 rfl
  have hhi := hok.hi
  have HOK := hid hok
  have hil := hid (isOf_len hok.len)
  clear hok
  go_enter Try.func43, Try.ntmps43
  go_wp2
  go_loopw [3, 4] (fun u v wr => ∃ k m : Nat, u = .int .i64 m ∧ v = .int .i64 k ∧ k ≤ now.length ∧ Aside (m = ((isOf now was).take k).count true) ∧ m ≤ k ∧ wr = w) (fun _ v _ => now.length - (intOf v).toNat)
  case atStart => exact ⟨0, 0, rfl, rfl, Nat.zero_le _, ⟨by simp⟩, Nat.le_refl _, rfl⟩
  case round =>
    obtain ⟨k, m, rfl, rfl, hk, hm, hmk, rfl⟩ := hrel
    by_cases hlt : k < now.length
    · have hk1 : (k : Int) < now.length := by omega
      have hg := isOf_get HOK.out.len hlt
      have hF := dfree_calls HS hlt
      have hsu : ((isOf now was).take (k + 1)).count true = m + if (gat now k == 0 && gat was k == 0) = true then 1 else 0 := by
        rw [List.take_add_one, hg, List.count_append, ← hm.out]
        cases (gat now k == 0 && gat was k == 0) <;> rfl
      cases hb : (gat now k == 0 && gat was k == 0) with
      | false =>
        rw [hb] at hF hsu
        have HSU := hid hsu
        clear hg hb hsu
        go_wp2_with fail
        refine hF.mono ?_
        rintro e w1 ⟨rfl, rfl⟩
        go_wp2
        go_roundw
        case rel => exact ⟨k + 1, m, rfl, by go_num, by omega, ⟨by rw [HSU.out]; rfl⟩, by omega, by trivial⟩
        case measure => simp [intOf]; omega
      | true =>
        rw [hb] at hF hsu
        have HSU := hid hsu
        clear hg hb hsu
        go_wp2_with fail
        refine hF.mono ?_
        rintro e w1 ⟨rfl, rfl⟩
        go_wp2
        go_roundw
        case rel => exact ⟨k + 1, m + 1, by go_num, by go_num, by omega, ⟨by rw [HSU.out]; rfl⟩, by omega, by trivial⟩
        case measure => simp [intOf]; omega
    · obtain rfl : k = now.length := by omega
      have hk1 : ¬ (now.length : Int) < now.length := by omega
      go_wp2
      go_ret
      exact ⟨by rw [hm.out, List.take_of_length_le (by rw [hil.out]; exact Nat.le_refl _)]; rfl, rfl⟩
end
end Go.Proofs.Ytepooiiaijbljaa
