/-
  The walk of RefsSafe.
-/
import Derived.Test.YtepooiiaijbljaaLaw07
import Derived.Test.YtepooiiaijbljaaActs
namespace Go.Proofs.Ytepooiiaijbljaa
open Go.RowKit
set_option linter.unusedVariables false
set_option linter.unusedSimpArgs false

theorem alNow_len (now was : List Int) : (alNow now was).length = now.length := by unfold alNow; split <;> simp
theorem inNow_len (now : List Int) (x : Int) : (inNow now x).length = now.length := by unfold inNow; split <;> simp
theorem deNow_len (now : List Int) (x : Int) : (deNow now x).length = now.length := by unfold deNow; split <;> simp
theorem doNow_len {now was : List Int} (h : was.length = now.length) (wh x : Int) : (doNow now was wh x).length = now.length := by
  unfold doNow
  split
  · exact alNow_len _ _
  · split
    · exact inNow_len _ _
    · split
      · exact deNow_len _ _
      · split
        · exact h
        · rfl
/-- what an Alloc tells, and leaves -/
theorem safe_alloc {now was : List Int} (hok : RfOk now was) :
    (doAt now was 0 = -1 ∧ doNow now was 0 0 = now ∧ ∀ k, k < now.length → ¬ (gat was k = 0 ∧ gat now k = 0)) ∨
    (∃ x : Nat, doAt now was 0 = x ∧ x < now.length ∧ doNow now was 0 0 = now.set x 1 ∧ (∀ k, k < x → ¬ (gat was k = 0 ∧ gat now k = 0)) ∧ gat was x = 0 ∧ gat now x = 0 ∧ ((isOf (now.set x 1) was).count true : Int) = (isOf now was).count true - 1 ∧ frAt (now.set x 1) was x = true) := by
  cases hl : leastOf (isOf now was) with
  | none =>
    left
    refine ⟨?_, ?_, fun k hk h => ?_⟩
    · have e : takeErr (isOf now was) = 8 := by unfold takeErr; rw [hl]; rfl
      unfold doAt; rw [if_pos rfl, e]; rfl
    · unfold doNow alNow; rw [if_pos rfl, hl]
    · have := leastOf_no hl k
      rw [isOf_get hok.len hk, h.1, h.2] at this
      exact this rfl
  | some x =>
    right
    obtain ⟨h1, h2, h3, h4, h5, -⟩ := alloc_step hok hl
    obtain ⟨g1, -, g3⟩ := leastOf_is hl
    refine ⟨x, ?_, h1, ?_, fun k hk h => ?_, h3, h2, by rw [h4]; exact count_off g1, ?_⟩
    · have e : takeErr (isOf now was) = 0 := by unfold takeErr; rw [hl]; rfl
      have e2 : takeAt (isOf now was) = x := by unfold takeAt; rw [hl]; rfl
      unfold doAt; rw [if_pos rfl, e, e2]; rfl
    · unfold doNow alNow; rw [if_pos rfl, hl]
    · have := g3 k hk
      rw [isOf_get hok.len (by omega), h.1, h.2] at this
      exact this rfl
    · unfold frAt
      rw [if_neg (by rw [List.length_set]; omega), Int.toNat_natCast, h3]
      have : gat (now.set x 1) x = 1 := by unfold gat; rw [List.getElem?_set, if_pos rfl, if_pos h1]; rfl
      rw [this]; rfl

set_option maxHeartbeats 16000000 in
set_option maxRecDepth 100000 in
theorem refsSafe_walk (A0 : Option Addr) (n0 c0 : Nat) (A1 : Option Addr) (n1 c1 : Nat) (x0 : Sh.V (.slice (.int .u8) 1)) (x1 : Sh.V (.slice (.agg (.pair (.int .i64) (.pair (.int .i64) .unit))) 16)) (w : World) (s0 : Sees w.heap (.slice (.int .u8) 1) [.slice A0 n0 c0] x0) (s1 : Sees w.heap (.slice (.agg (.pair (.int .i64) (.pair (.int .i64) .unit))) 16) [.slice A1 n1 c1] x1) (y0 : Light (.slice (.int .u8) 1) x0) (y1 : Light (.slice (.agg (.pair (.int .i64) (.pair (.int .i64) .unit))) 16) x1) :
    Calls Try.prog 3 #[.slice A0 n0 c0, .slice A1 n1 c1] w fun e w' => e = .returned (.bool true) ∧ Below w.heap.size w w' := by
  obtain ⟨i0, hi0, hz0, hz1, hz2⟩ := info_parts info_u8'
  have hn1 : n1 ≤ 140737488351232 := by
    obtain ⟨A', c', hc, -⟩ := s1
    simp only [List.cons.injEq, and_true, Value.slice.injEq] at hc
    have := y1.1
    rw [← hc.2.1] at this
    omega
  obtain ⟨hc1, acts, hal, hab, hm⟩ := sees_acts s1
  have HRA := hid (fun L => Rb.came (L := L) hm)
  obtain ⟨hn, hr, hc, _, hw⟩ := sees_ints s0
  obtain ⟨l, rfl⟩ : ∃ l : List Int, l = x0 := ⟨_, rfl⟩
  have HB := hid (kv_byt hw)
  have HRR := hid (fun L => Rb.came (L := L) hr)
  have hll : l.length = n0 := by omega
  have hn0 : n0 ≤ 140737488351232 := by have h : l.length * 1 ≤ 140737488351232 := y0.1; omega
  clear s0 s1 y0 y1 hw hr hn hc hm hab hal
  have HS := Sep.start w
  by_cases hbad : n0 < 1 ∨ 1024 < n0
  · go_enter Try.func3, Try.ntmps3
    go_wp2_with fail
    refine (rnew_bad hbad).mono ?_
    rintro e w1 ⟨rfl, rfl⟩
    go_wp2_with fail
    refine (awake_calls HS).mono ?_
    rintro e w2 ⟨rfl, H2⟩
    by_cases h1 : (n0 : Int) < 1
    · go_wp2
      go_ret
      exact ⟨rfl, H2.below⟩
    · have h2 : (1024 : Int) < n0 := by omega
      go_wp2
      go_ret
      exact ⟨rfl, H2.below⟩
  subst hll
  have hlo : 1 ≤ l.length := by omega
  have hhi : l.length ≤ 1024 := by omega
  obtain ⟨n, hnn⟩ : ∃ n, n = l.length := ⟨_, rfl⟩
  have hNW := rnew_calls (c := c0) HS (HRR.out _) HB.out hlo hhi
  rw [← hnn] at hlo hhi hn0 hNW ⊢
  have HNN := hid hnn
  have HNW := hid hNW
  clear hbad hNW hnn
  go_enter Try.func3, Try.ntmps3
  go_wp2_with fail
  refine HNW.out.mono ?_
  rintro e w1 ⟨g, rfl, H1⟩
  go_wp2_with fail
  refine (awake_calls H1).mono ?_
  rintro e w2 ⟨rfl, H2⟩
  have HL := H2.lit #[] 5 1 0 rfl (Nat.zero_le _)
  have hrd := ((HRR.out (own 5 1 (some ⟨w2.heap.size, 0, none⟩) 0 0 ((#[] : Array Value).toList) :: refsA g l l :: []))).read HL
  rw [← HNN.out] at hrd
  have hb1 : 0 + n ≤ maxLen := by simp only [maxLen]; omega
  have hb2 : (0 + n) * 1 ≤ 140737488355328 := by omega
  clear HS H1 HNW
  go_wp2_with (at_builtin; go_loud (refine wpList_append_sep rfl (.tmp 33) (.tmp 34) 22 rfl 5 i0 _ 1 1 Try.underlying22 hi0 hz0 hz1 hz2 rfl (by decide) rfl HL rfl hrd (kv_one .u8 l) hb1 hb2 (Nat.zero_add n) (List.nil_append _) ?_); intro Aw cw w3 H3 hsz3)
  clear HL hrd
  go_loopw [7, 38] (fun ws i wr => ∃ (k cw : Nat) (now was : List Int) (Aw : Option Addr), k ≤ n1 ∧ i = .int .i64 k ∧ ws = .slice Aw n cw ∧ now.length = n ∧ was.length = n ∧ Sep w wr (fun _ => False) (own 5 1 Aw n cw (kv .u8 was) :: refsA g now was :: [])) (fun _ i _ => n1 - (intOf i).toNat)
  case atStart => exact ⟨0, cw, l, l, Aw, Nat.zero_le _, rfl, rfl, HNN.out.symm, HNN.out.symm, H3⟩
  case round =>
    obtain ⟨k, cw, now, was, Aw, hk, rfl, rfl, hnl, hwl, H4⟩ := hrel
    clear H3 hb1 hb2
    by_cases hlt : k < n1
    · obtain ⟨ad, ⟨wh, at_⟩, rfl, hp, p0, p1⟩ := (HRA.out _).actAt H4 hlt
      have hk1 : (k : Int) < n1 := by omega
      have H5 := H4.alloc #[.int .i64 wh, .int .i64 at_] 30
      obtain ⟨ga, hga⟩ : ∃ ga, ga = wr.heap.size := ⟨_, rfl⟩
      have HGA := hid hga
      rw [← hga] at H5
      clear hga hp
      by_cases h300 : k = 300
      · have ht : ((k : Int) == 300) = true := by simp; omega
        clear h300 hnl hwl
        go_wp2
        go_ret
        exact ⟨rfl, H5.below⟩
      · have ht : ((k : Int) == 300) = false := by simp; omega
        obtain ⟨hok, -⟩ := H4.up1.unrefs
        have hRC : ∀ {W : World} {L : List Asr}, Sep w W (fun _ => False) (refsA g now was :: L) → Calls Try.prog 9 #[.pointer (some ⟨g, 0, none⟩)] W fun e w' => ∃ A c, e = .returned (.slice A n c) ∧ Sep w w' (fun _ => False) (own 5 1 A n c (kv .u8 now) :: refsA g now was :: L) := fun h => by
          have := rcounts_calls h
          rwa [hnl] at this
        have hnl2 := doNow_len (show was.length = now.length by omega) wh at_
        have HOK := hid hok
        have HRC := hid @hRC
        have HNL := hid hnl
        have HWL := hid hwl
        clear hok hRC
        go_upto_region 11 with (fail)
        rw [← HGA.out]
        clear p0 p1
        generalize hW : wr.alloc (.cells #[.int .i64 wh, .int .i64 at_] 30) = w5 at *
        have H6 : Sep w w5 (fun _ => False) (refsA g now was :: own 5 1 Aw n cw (kv .u8 was) :: blk ga 30 #[.int .i64 wh, .int .i64 at_] :: []) := H5.sel 3 [2, 1, 0]
        clear hW H5 H4 ht
        go_wp2_with fail
        refine (HRC.out H6).mono ?_
        rintro e w6 ⟨Ah, ch, rfl, H7⟩
        go_wp2_with fail
        refine (rfree_calls H7.up1).mono ?_
        rintro e w7 ⟨rfl, rfl⟩
        obtain ⟨fr, hfr⟩ : ∃ fr, fr = (isOf now was).count true := ⟨_, rfl⟩
        rw [← hfr]
        have HFR := hid hfr
        have hfb : fr ≤ n := by rw [hfr]; have := List.count_le_length (a := true) (l := isOf now was); rw [isOf_len (by omega)] at this; omega
        have q0 := H7.up3.blkAt 0 rfl
        have q1 := H7.up3.blkAt 1 rfl
        have hDO := do_calls (wh := wh) (x := at_) H7.up1
        obtain ⟨now2, hn2⟩ : ∃ now2, now2 = doNow now was wh at_ := ⟨_, rfl⟩
        obtain ⟨was2, hw2⟩ : ∃ was2, was2 = doWas now was wh := ⟨_, rfl⟩
        obtain ⟨dt, hdt⟩ : ∃ dt, dt = doAt now was wh := ⟨_, rfl⟩
        rw [← hn2, ← hw2, ← hdt] at hDO
        rw [← hn2] at hnl2
        have HN2 := hid hn2
        have HW2 := hid hw2
        have HDT := hid hdt
        have hRC2 : ∀ {W : World} {L : List Asr}, Sep w W (fun _ => False) (refsA g now2 was2 :: L) → Calls Try.prog 9 #[.pointer (some ⟨g, 0, none⟩)] W fun e w' => ∃ A c, e = .returned (.slice A n c) ∧ Sep w w' (fun _ => False) (own 5 1 A n c (kv .u8 now2) :: refsA g now2 was2 :: L) := fun h => by
          have := rcounts_calls h
          rwa [hnl2, hnl] at this
        have HDO := hid hDO
        have HRC2 := hid @hRC2
        have HNL2 := hid (hnl2.trans hnl)
        clear hDO hRC2 hnl2 hnl hwl hn2 hw2 hdt hfr
        go_wp2_with fail
        refine HDO.out.mono ?_
        rintro e w8 ⟨rfl, H8⟩
        clear q0 q1 HDO H6 H7
        go_wp2_with fail
        refine (HRC2.out H8).mono ?_
        rintro e w9 ⟨An, cn, rfl, H9⟩
        have q0 := H9.up4.blkAt 0 rfl
        clear H8
        obtain ⟨bn, rfl⟩ := H9.own_some (by omega)
        obtain ⟨bh, rfl⟩ := H9.up2.own_some (by omega)
        obtain ⟨bw, rfl⟩ := H9.up3.own_some (by omega)
        by_cases hw0 : wh = 0
        · subst hw0
          have hW2' : doWas now was 0 = was := rfl
          have HW2 := hid (HW2.out.trans hW2')
          rcases safe_alloc HOK.out with ⟨d1, d2, d3⟩ | ⟨x, d1, dx, d2, d3, d4, d5, d6, d7⟩
          · have e1 : dt = -1 := HDT.out.trans d1
            have E2 := hid (HN2.out.trans (show doNow now was 0 at_ = now from d2))
            have D3 := hid d3
            subst e1
            clear d1 d2 d3 hW2'
            go_wp2
            go_loopw [64] (fun i wr => ∃ j : Nat, j ≤ n ∧ i = .int .i64 j ∧ Sep w wr (fun _ => False) (own 5 1 (some ⟨bn, 0, none⟩) n cn (kv .u8 now2) :: refsA g now2 was2 :: own 5 1 (some ⟨bh, 0, none⟩) n ch (kv .u8 now) :: own 5 1 (some ⟨bw, 0, none⟩) n cw (kv .u8 was) :: blk ga 30 #[.int .i64 0, .int .i64 at_] :: [])) (fun i _ => n - (intOf i).toNat)
            case atStart => exact ⟨0, Nat.zero_le _, rfl, H9⟩
            case round =>
              obtain ⟨j, hj, rfl, H10⟩ := hrel
              clear H9 q0
              have q0 := H10.up4.blkAt 0 rfl
              by_cases hlj : j < n
              · have hjn : (j : Int) < n := by omega
                have hjw : j < was.length := by have := HWL.out; omega
                have hjh : j < now.length := by have := HNL.out; omega
                have hj2 : j < now2.length := by have := HNL2.out; omega
                have cw0 := H10.up3.kcell hjw HWL.out
                have ch0 := H10.up2.kcell hjh HNL.out
                have cn0 := H10.kcell hj2 HNL2.out
                rw [gat_int hjw] at cw0
                rw [gat_int hjh] at ch0
                rw [gat_int hj2] at cn0
                obtain ⟨mm, hmm⟩ : ∃ mm, mm = (gat was j == 0 && gat now j == 0) := ⟨_, rfl⟩
                have HMM := hid hmm
                clear hmm
                go_upto_region 21 with (fail)
                go_cut [15] (fun v wx => v = .bool mm ∧ wx = wr)
                case first =>
                  clear cn0
                  by_cases z1 : gat was j = 0
                  · have b1 : (gat was j == 0) = true := by simpa using z1
                    rw [z1] at cw0
                    by_cases z2 : gat now j = 0
                    · have b2 : (gat now j == 0) = true := by simpa using z2
                      have e := HMM.out
                      rw [b1, b2] at e
                      rw [z2] at ch0
                      have HE := hid e
                      clear z1 z2 b1 b2 e hjw hjh hj2
                      go_wp2
                      go_meet
                      case rel => exact ⟨by rw [HE.out]; rfl, rfl⟩
                    · have b2 : (gat now j == 0) = false := beq_eq_false_iff_ne.2 z2
                      have e := HMM.out
                      rw [b1, b2] at e
                      have HE := hid e
                      clear z1 z2 b1 e hjw hjh hj2
                      go_wp2
                      go_meet
                      case rel => exact ⟨by rw [HE.out]; rfl, rfl⟩
                  · have b1 : (gat was j == 0) = false := beq_eq_false_iff_ne.2 z1
                    have e := HMM.out
                    rw [b1] at e
                    have HE := hid e
                    clear z1 e hjw hjh hj2
                    go_wp2
                    go_meet
                    case rel => exact ⟨by rw [HE.out]; rfl, rfl⟩
                case rest =>
                  obtain ⟨rfl, rfl⟩ := hcut
                  clear cw0 hjw hj2
                  have hno := D3.out j hjh
                  rw [E2.out] at cn0
                  have hmf : mm = false := by
                    rw [HMM.out]
                    by_cases z1 : gat was j = 0
                    · have z2 : ¬ gat now j = 0 := fun h => hno ⟨z1, h⟩
                      rw [beq_eq_false_iff_ne.2 z2, Bool.and_false]
                    · rw [beq_eq_false_iff_ne.2 z1, Bool.false_and]
                  subst hmf
                  generalize gat now j = vn at *
                  clear hno hjh HMM
                  go_upto_region 22 with (fail)
                  go_quiet (fail)
                  go_wp2
                  go_roundw
                  case rel => exact ⟨j + 1, by omega, by go_num, H10.drewN nq⟩
                  case measure => simp [intOf]; omega
              · obtain rfl : j = n := by omega
                have hjn : ¬ (j : Int) < j := by omega
                have EW := HW2.out
                go_wp2
                go_roundw
                case rel => exact ⟨k + 1, cw, now2, was2, some ⟨bw, 0, none⟩, by omega, by go_num, rfl, HNL2.out, by rw [EW]; exact HWL.out, by rw [EW] at H10 ⊢; exact H10.sel 5 [3, 1]⟩
                case measure => simp [intOf]; omega
          · have e1 : dt = x := HDT.out.trans d1
            have E2 := hid (HN2.out.trans (show doNow now was 0 at_ = now.set x 1 from d2))
            have D3 := hid d3
            have D4 := hid d4
            have D5 := hid d5
            have D6 := hid d6
            have D7 := hid d7
            have hx : x < n := by have := HNL.out; omega
            subst e1
            clear d1 d2 d3 d4 d5 d6 d7 hW2' dx
            go_wp2
            go_loopw [64] (fun i wr => ∃ j : Nat, j ≤ n ∧ i = .int .i64 j ∧ Sep w wr (fun _ => False) (own 5 1 (some ⟨bn, 0, none⟩) n cn (kv .u8 now2) :: refsA g now2 was2 :: own 5 1 (some ⟨bh, 0, none⟩) n ch (kv .u8 now) :: own 5 1 (some ⟨bw, 0, none⟩) n cw (kv .u8 was) :: blk ga 30 #[.int .i64 0, .int .i64 at_] :: [])) (fun i _ => n - (intOf i).toNat)
            case atStart => exact ⟨0, Nat.zero_le _, rfl, H9⟩
            case round =>
              obtain ⟨j, hj, rfl, H10⟩ := hrel
              clear H9 q0
              have q0 := H10.up4.blkAt 0 rfl
              by_cases hlj : j < n
              · have hjn : (j : Int) < n := by omega
                have hjw : j < was.length := by have := HWL.out; omega
                have hjh : j < now.length := by have := HNL.out; omega
                have hj2 : j < now2.length := by have := HNL2.out; omega
                have cw0 := H10.up3.kcell hjw HWL.out
                have ch0 := H10.up2.kcell hjh HNL.out
                have cn0 := H10.kcell hj2 HNL2.out
                rw [gat_int hjw] at cw0
                rw [gat_int hjh] at ch0
                rw [gat_int hj2] at cn0
                obtain ⟨mm, hmm⟩ : ∃ mm, mm = (gat was j == 0 && gat now j == 0) := ⟨_, rfl⟩
                have HMM := hid hmm
                clear hmm
                go_upto_region 21 with (fail)
                go_cut [15] (fun v wx => v = .bool mm ∧ wx = wr)
                case first =>
                  clear cn0
                  by_cases z1 : gat was j = 0
                  · have b1 : (gat was j == 0) = true := by simpa using z1
                    rw [z1] at cw0
                    by_cases z2 : gat now j = 0
                    · have b2 : (gat now j == 0) = true := by simpa using z2
                      have e := HMM.out
                      rw [b1, b2] at e
                      rw [z2] at ch0
                      have HE := hid e
                      clear z1 z2 b1 b2 e hjw hjh hj2
                      go_wp2
                      go_meet
                      case rel => exact ⟨by rw [HE.out]; rfl, rfl⟩
                    · have b2 : (gat now j == 0) = false := beq_eq_false_iff_ne.2 z2
                      have e := HMM.out
                      rw [b1, b2] at e
                      have HE := hid e
                      clear z1 z2 b1 e hjw hjh hj2
                      go_wp2
                      go_meet
                      case rel => exact ⟨by rw [HE.out]; rfl, rfl⟩
                  · have b1 : (gat was j == 0) = false := beq_eq_false_iff_ne.2 z1
                    have e := HMM.out
                    rw [b1] at e
                    have HE := hid e
                    clear z1 e hjw hjh hj2
                    go_wp2
                    go_meet
                    case rel => exact ⟨by rw [HE.out]; rfl, rfl⟩
                case rest =>
                  obtain ⟨rfl, rfl⟩ := hcut
                  clear cw0 hjw hj2
                  rcases Nat.lt_trichotomy j x with hjx | hjx | hjx
                  · have hno := D3.out j hjx
                    have p1 : (j : Int) < x := by omega
                    have hx0 : ¬ (x : Int) < 0 := by omega
                    have hx1 : (0 : Int) ≤ x := by omega
                    have p3 : ¬ (j : Int) = x := by omega
                    have p2 : ((j : Int) == x) = false := beq_eq_false_iff_ne.2 (by omega)
                    have p4 : ¬ j = x := by omega
                    have p5 : (j == x) = false := beq_eq_false_iff_ne.2 (by omega)
                    have p6 : ((j : Int) != x) = true := bne_iff_ne.2 (by omega)
                    have p7 : (j != x) = true := bne_iff_ne.2 (by omega)
                    have e2 : gat now2 j = gat now j := by rw [E2.out]; unfold gat; rw [List.getElem?_set, if_neg (by omega)]
                    rw [e2] at cn0
                    have hmf : mm = false := by
                      rw [HMM.out]
                      by_cases z1 : gat was j = 0
                      · have z2 : ¬ gat now j = 0 := fun h => hno ⟨z1, h⟩
                        rw [beq_eq_false_iff_ne.2 z2, Bool.and_false]
                      · rw [beq_eq_false_iff_ne.2 z1, Bool.false_and]
                    subst hmf
                    generalize gat now j = vn at *
                    clear hno hjh e2 HMM
                    go_upto_region 22 with (fail)
                    go_quiet (fail)
                    go_wp2
                    go_roundw
                    case rel => exact ⟨j + 1, by omega, by go_num, H10.drewN nq⟩
                    case measure => simp [intOf]; omega
                  · subst hjx
                    have hx0 : ¬ (j : Int) < 0 := by omega
                    have hx1 : (0 : Int) ≤ j := by omega
                    have hmt : mm = true := by rw [HMM.out, D4.out, D5.out]; rfl
                    have e2 : gat now2 j = 1 := by rw [E2.out]; unfold gat; rw [List.getElem?_set, if_pos rfl, if_pos (by omega)]; rfl
                    rw [e2] at cn0
                    subst hmt
                    clear hjh e2 HMM ch0
                    go_upto_region 22 with (fail)
                    go_quiet (fail)
                    go_wp2
                    go_roundw
                    case rel => exact ⟨j + 1, by omega, by go_num, H10.drewN nq⟩
                    case measure => simp [intOf]; omega
                  · have p1 : ¬ (j : Int) < x := by omega
                    have hx0 : ¬ (x : Int) < 0 := by omega
                    have hx1 : (0 : Int) ≤ x := by omega
                    have p3 : ¬ (j : Int) = x := by omega
                    have p2 : ((j : Int) == x) = false := beq_eq_false_iff_ne.2 (by omega)
                    have p4 : ¬ j = x := by omega
                    have p5 : (j == x) = false := beq_eq_false_iff_ne.2 (by omega)
                    have p6 : ((j : Int) != x) = true := bne_iff_ne.2 (by omega)
                    have p7 : (j != x) = true := bne_iff_ne.2 (by omega)
                    have e2 : gat now2 j = gat now j := by rw [E2.out]; unfold gat; rw [List.getElem?_set, if_neg (by omega)]
                    rw [e2] at cn0
                    generalize gat now j = vn at *
                    clear hjh e2 HMM
                    go_upto_region 22 with (fail)
                    go_quiet (fail)
                    go_wp2
                    go_roundw
                    case rel => exact ⟨j + 1, by omega, by go_num, H10.drewN nq⟩
                    case measure => simp [intOf]; omega
              · obtain rfl : j = n := by omega
                have hjn : ¬ (j : Int) < j := by omega
                have EW := HW2.out
                have hwf : IntKind.i64.wrap ((fr : Int) - 1) = (fr : Int) - 1 := by rw [IntKind.wrap_i64]; omega
                have hxx : (0 : Int) ≤ x := by omega
                have h6 : ((isOf now2 was2).count true : Int) = (fr : Int) - 1 := by rw [EW, E2.out, HFR.out]; exact D6.out
                have h7 : frAt now2 was2 x = true := by rw [EW, E2.out]; exact D7.out
                have HFX := hid (rfree_calls H10.up1)
                have HFY := hid (rfresh_calls (x := (x : Int)) H10.up1)
                rw [h6] at HFX
                rw [h7] at HFY
                have EWH := hid EW
                clear h6 h7 EW
                go_wp2_with fail
                refine HFX.out.mono ?_
                rintro e w10 ⟨rfl, rfl⟩
                go_wp2_with fail
                refine HFY.out.mono ?_
                rintro e w11 ⟨rfl, rfl⟩
                go_wp2
                go_roundw
                case rel => exact ⟨k + 1, cw, now2, was2, some ⟨bw, 0, none⟩, by omega, by go_num, rfl, HNL2.out, by rw [EWH.out]; exact HWL.out, by
                  have h := H10.sel 5 [3, 1]
                  rw [EWH.out] at h ⊢
                  exact h⟩
                case measure => simp [intOf]; omega
        · have e1 : dt = -1 := HDT.out.trans (by unfold doAt; rw [if_neg hw0])
          subst e1
          rcases (show wh = 3 ∨ wh = 4 ∨ (¬ wh = 3 ∧ ¬ wh = 4) by omega) with rfl | rfl | ⟨n3, n4⟩
          · have E2 := hid (HN2.out.trans (show doNow now was 3 at_ = now from rfl))
            have EW := hid (HW2.out.trans (show doWas now was 3 = now from rfl))
            have H10 := H9
            rw [E2.out] at H10
            clear H9 HRC2 hw0
            go_wp2_with fail
            refine (equal_true H10 Rb.i0 Rb.i2).mono ?_
            rintro e w10 ⟨rfl, rfl⟩
            go_wp2
            go_roundw
            case rel => exact ⟨k + 1, cn, now, now, some ⟨bn, 0, none⟩, by omega, by go_num, rfl, HNL.out, HNL.out, by
              have h := H10.sel 5 [0, 1]
              rw [EW.out] at h
              exact h⟩
            case measure => simp [intOf]; omega
          · have E2 := hid (HN2.out.trans (show doNow now was 4 at_ = was from rfl))
            have EW := hid (HW2.out.trans (show doWas now was 4 = was from rfl))
            have H10 := H9
            rw [E2.out] at H10
            clear H9 HRC2 hw0
            go_wp2_with fail
            refine (equal_true H10 Rb.i0 Rb.i3).mono ?_
            rintro e w10 ⟨rfl, rfl⟩
            go_wp2
            go_roundw
            case rel => exact ⟨k + 1, cn, was, was, some ⟨bn, 0, none⟩, by omega, by go_num, rfl, HWL.out, HWL.out, by
              have h := H10.sel 5 [0, 1]
              rw [EW.out] at h
              exact h⟩
            case measure => simp [intOf]; omega
          · have EW := hid (HW2.out.trans (show doWas now was wh = was by unfold doWas; rw [if_neg n3]))
            have b3 : (wh == 3) = false := beq_eq_false_iff_ne.2 n3
            have b4 : (wh == 4) = false := beq_eq_false_iff_ne.2 n4
            have b0 : (wh == 0) = false := beq_eq_false_iff_ne.2 hw0
            clear n3 n4
            go_wp2
            go_roundw
            case rel => exact ⟨k + 1, cw, now2, was2, some ⟨bw, 0, none⟩, by omega, by go_num, rfl, HNL2.out, by rw [EW.out]; exact HWL.out, by
              have h := H9.sel 5 [3, 1]
              rw [EW.out] at h ⊢
              exact h⟩
            case measure => simp [intOf]; omega
    · obtain rfl : k = n1 := by omega
      have hk1 : ¬ (k : Int) < k := by omega
      clear hnl hwl
      go_wp2
      go_ret
      exact ⟨rfl, H4.below⟩
end Go.Proofs.Ytepooiiaijbljaa
