/-
  The walk of RefsDeferred.
-/
import Derived.Test.YtepooiiaijbljaaLaw07
namespace Go.Proofs.Ytepooiiaijbljaa
open Go.RowKit
set_option linter.unusedVariables false
set_option linter.unusedSimpArgs false

def uwithin (k : Int) (n : Nat) : Nat := ((k % 18446744073709551616) % n).toNat
theorem uwithin_lt {k : Int} {n : Nat} (h : 0 < n) : uwithin k n < n := by
  have h1 := Int.emod_nonneg (k % 18446744073709551616) (show (n : Int) ≠ 0 by omega)
  have h2 := Int.emod_lt_of_pos (k % 18446744073709551616) (show (0 : Int) < n by omega)
  unfold uwithin; omega
theorem gat_set {l : List Int} {k : Nat} {x : Int} (hk : k < l.length) : gat (l.set k x) k = x := by
  unfold gat; rw [List.getElem?_set, if_pos rfl, if_pos hk]; rfl
theorem whyE_at {l : List Int} {k : Nat} (hk : k < l.length) (h : ¬ gat l k = 0) : whyE l k = 0 := by
  unfold whyE; rw [if_neg (by omega), Int.toNat_natCast, if_neg h]
/-- a block that none points to -/
theorem def_free {l : List Int} {q : Nat} (hok : RfOk l l) (hq : q < l.length) (h0 : gat l q = 0) :
    ∃ x : Nat, takeErr (isOf l l) = 0 ∧ takeAt (isOf l l) = x ∧ alNow l l = l.set x 1 ∧ whyE (l.set x 1) x = 0 ∧ deGone (l.set x 1) x = true ∧ deNow (l.set x 1) x = l ∧ ((isOf (l.set x 1) l).count true : Int) = (isOf l l).count true - 1 := by
  have hi := isOf_get hok.len hq
  rw [h0] at hi
  cases hl : leastOf (isOf l l) with
  | none => exact absurd hi (leastOf_no hl q)
  | some x =>
    obtain ⟨h1, h2, h3, h4, -, -⟩ := alloc_step hok hl
    obtain ⟨g1, g2, -⟩ := leastOf_is hl
    have hw : whyE (l.set x 1) x = 0 := whyE_at (by rw [List.length_set]; exact h1) (by rw [gat_set h1]; decide)
    refine ⟨x, by unfold takeErr; rw [hl]; rfl, by unfold takeAt; rw [hl]; rfl, by unfold alNow; rw [hl], hw, ?_, ?_, ?_⟩
    · unfold deGone; rw [hw, Int.toNat_natCast, gat_set h1]; rfl
    · unfold deNow
      rw [if_pos hw, Int.toNat_natCast, gat_set h1, List.set_set]
      exact set_same (by rw [gat_get h1, h2]; rfl)
    · rw [h4]; exact count_off g1
/-- a block that the commit points to -/
theorem def_held {l : List Int} {q : Nat} (hok : RfOk l l) (hq : q < l.length) (h0 : ¬ gat l q = 0) (j : Int) : isOf (l.set q j) l = isOf l l := by
  rw [isOf_set hok.len hq]
  have hi := isOf_get hok.len hq
  have e1 : (gat l q == 0) = false := beq_eq_false_iff_ne.2 h0
  rw [e1, Bool.and_false]
  rw [e1, Bool.and_false] at hi
  exact set_same hi
theorem def_step {l : List Int} {q j : Nat} (hq : q < l.length) : whyE (l.set q ((j + 1 : Nat) : Int)) q = 0 ∧ deNow (l.set q ((j + 1 : Nat) : Int)) q = l.set q (j : Int) ∧ deGone (l.set q ((j + 1 : Nat) : Int)) q = decide (j = 0) := by
  have hw : whyE (l.set q ((j + 1 : Nat) : Int)) q = 0 := whyE_at (by rw [List.length_set]; exact hq) (by rw [gat_set hq]; omega)
  refine ⟨hw, ?_, ?_⟩
  · unfold deNow; rw [if_pos hw, Int.toNat_natCast, gat_set hq, List.set_set]; congr 1; omega
  · unfold deGone; rw [hw, Int.toNat_natCast, gat_set hq]
    by_cases hj : j = 0
    · subst hj; rfl
    · rw [decide_eq_false hj, decide_eq_false (show ¬ ((j + 1 : Nat) : Int) - 1 = 0 by omega), Bool.and_false]
theorem def_end {l : List Int} {q : Nat} (hok : RfOk l l) (hq : q < l.length) (h0 : ¬ gat l q = 0) : whyE (l.set q 0) q = 6 ∧ inErr (l.set q 0) q = 6 ∧ deNow (l.set q 0) q = l.set q 0 ∧ inNow (l.set q 0) q = l.set q 0 ∧ ((isOf (l.set q 0) (l.set q 0)).count true : Int) = (isOf l l).count true + 1 := by
  have hw : whyE (l.set q 0) q = 6 := by unfold whyE; rw [if_neg (by rw [List.length_set]; omega), Int.toNat_natCast, gat_set hq, if_pos rfl]
  have hi : inErr (l.set q 0) q = 6 := by unfold inErr; rw [if_pos (by rw [hw]; decide), hw]
  refine ⟨hw, hi, by unfold deNow; rw [if_neg (by rw [hw]; decide)], by unfold inNow; rw [if_neg (by rw [hi]; decide)], ?_⟩
  rw [isOf_self, isOf_self, List.map_set]
  refine count_on (by rw [List.length_map]; exact hq) ?_
  rw [List.getElem?_map, gat_get hq]
  simpa using h0

set_option maxHeartbeats 8000000 in
set_option maxRecDepth 100000 in
theorem refsDeferred_walk (A0 : Option Addr) (n0 c0 : Nat) (a1 : Int) (x0 : Sh.V (.slice (.int .u8) 1)) (x1 : Sh.V (.int .i64)) (w : World) (s0 : Sees w.heap (.slice (.int .u8) 1) [.slice A0 n0 c0] x0) (s1 : Sees w.heap (.int .i64) [.int .i64 a1] x1) (y0 : Light (.slice (.int .u8) 1) x0) (y1 : Light (.int .i64) x1) :
    Calls Try.prog 4 #[.slice A0 n0 c0, .int .i64 a1] w fun e w' => e = .returned (.bool true) ∧ Below w.heap.size w w' := by
  obtain ⟨hn, hr, hc, _, hw⟩ := sees_ints s0
  obtain ⟨l, rfl⟩ : ∃ l : List Int, l = x0 := ⟨_, rfl⟩
  have hb := kv_byt hw
  have hR := fun L => Rb.came (L := L) hr
  have hll : l.length = n0 := by omega
  have hn0 : n0 ≤ 140737488351232 := by have h : l.length * 1 ≤ 140737488351232 := y0.1; omega
  clear s0 s1 y0 y1 hw hr hn hc
  have HS := Sep.start w
  by_cases hbad : n0 < 1 ∨ 1024 < n0
  · have hor : ((n0 : Int) < 1 ∨ (1024 : Int) < n0) := by omega
    go_enter Try.func4, Try.ntmps4
    go_wp2_with fail
    refine (rnew_bad hbad).mono ?_
    rintro e w1 ⟨rfl, rfl⟩
    go_wp2_with fail
    refine (awake_calls HS).mono ?_
    rintro e w2 ⟨rfl, H2⟩
    by_cases h1 : (n0 : Int) < 1
    · go_wp2
      go_ret
      exact ⟨rfl, H2.below⟩
    · have h2 : (1024 : Int) < n0 := by omega
      go_wp2
      go_ret
      exact ⟨rfl, H2.below⟩
  subst hll
  have hlo : 1 ≤ l.length := by omega
  have hhi : l.length ≤ 1024 := by omega
  have hok : RfOk l l := ⟨rfl, hlo, hhi, hb, hb⟩
  have hql := uwithin_lt (k := a1) (n := l.length) hlo
  have h1 := Int.emod_nonneg (a1 % 18446744073709551616) (show (l.length : Int) ≠ 0 by omega)
  have h2 := Int.emod_lt_of_pos (a1 % 18446744073709551616) (show (0 : Int) < l.length by omega)
  have h3 := Int.emod_nonneg a1 (show (18446744073709551616 : Int) ≠ 0 by decide)
  have hwe : ((uwithin a1 l.length : Nat) : Int) = (a1 % 18446744073709551616) % l.length := by unfold uwithin; omega
  have u1 : IntKind.u64.wrap a1 = a1 % 18446744073709551616 := by rw [IntKind.wrap_u64]
  have u2 : IntKind.u64.wrap (l.length : Int) = l.length := by rw [IntKind.wrap_u64]; omega
  have e1 : (a1 % 18446744073709551616).tmod l.length = ((uwithin a1 l.length : Nat) : Int) := by rw [hwe, Int.tmod_eq_emod_of_nonneg h3]
  have u3 : IntKind.i64.wrap ((uwithin a1 l.length : Nat) : Int) = ((uwithin a1 l.length : Nat) : Int) := by rw [IntKind.wrap_i64]; omega
  have n0' : ¬ (l.length : Int) = 0 := by omega
  clear hwe h1 h2 hbad
  generalize uwithin a1 l.length = q at *
  generalize a1 % 18446744073709551616 = km at *
  have HOK := hid hok
  have HB := hid hb
  have HRR := hid hR
  clear hok hb hR
  have hq1 : (q : Int) < l.length := by omega
  go_enter Try.func4, Try.ntmps4
  go_wp2_with fail
  refine (rnew_calls HS (HRR.out _) HB.out hlo hhi).mono ?_
  rintro e w1 ⟨g, rfl, H1⟩
  go_wp2_with fail
  refine (awake_calls H1).mono ?_
  rintro e w2 ⟨rfl, H2⟩
  clear HS H1
  go_wp2_with fail
  refine (rfree_calls H2).mono ?_
  rintro e w3 ⟨rfl, rfl⟩
  obtain ⟨fr, hfr⟩ : ∃ fr, fr = (isOf l l).count true := ⟨_, rfl⟩
  have hfb : fr ≤ l.length := by rw [hfr]; have := List.count_le_length (a := true) (l := isOf l l); rw [isOf_len rfl] at this; exact this
  rw [← hfr]
  have HFR := hid hfr
  clear hfr
  obtain ⟨ad, y, rfl, hy, hym, ck⟩ := (HRR.out _).elemn H2 hql
  have hyg : y = gat l q := by rw [gat_get hql] at hy; injection hy with hy; exact hy.symm
  have hyb := HB.out y hym
  clear hy hym u1 u2 e1 u3 n0' h3
  by_cases hz : y = 0
  · subst hz
    obtain ⟨x, t1, t2, t3, t4, t5, t6, t7⟩ := def_free HOK.out hql hyg.symm
    rw [← HFR.out] at t7
    have hA1 := ralloc_calls H2
    rw [t1, t2, t3] at hA1
    have hD : ∀ (W : World), Sep w W (fun _ => False) (refsA g (l.set x 1) l :: []) → Calls Try.prog 15 #[.pointer (some ⟨g, 0, none⟩), .int .i64 x] W fun e w' => e = .returned (.tuple #[.bool true, .int .i64 0]) ∧ Sep w w' (fun _ => False) (refsA g l l :: []) := fun W h => by
      have := rdec_calls (x := (x : Int)) h
      rwa [t4, t5, t6] at this
    have hA2 : ∀ (W : World), Sep w W (fun _ => False) (refsA g l l :: []) → Calls Try.prog 14 #[.pointer (some ⟨g, 0, none⟩)] W fun e w' => e = .returned (.tuple #[.int .i64 x, .int .i64 0]) ∧ Sep w w' (fun _ => False) (refsA g (l.set x 1) l :: []) := fun W h => by
      have := ralloc_calls h
      rwa [t1, t2, t3] at this
    have HA1 := hid hA1
    have HD := hid hD
    have HA2 := hid hA2
    have HT7 := hid t7
    have hwf : IntKind.i64.wrap ((fr : Int) - 1) = (fr : Int) - 1 := by rw [IntKind.wrap_i64]; omega
    clear t1 t2 t3 t4 t5 t6 t7 hA1 hD hA2 hyg hyb
    go_wp2_with fail
    refine HA1.out.mono ?_
    rintro e w4 ⟨rfl, H4⟩
    go_wp2_with fail
    refine (HD.out _ H4).mono ?_
    rintro e w5 ⟨rfl, H5⟩
    go_wp2_with fail
    refine (HA2.out _ H5).mono ?_
    rintro e w6 ⟨rfl, H6⟩
    go_wp2_with fail
    refine (rfree_calls H6).mono ?_
    rintro e w7 ⟨rfl, rfl⟩
    rw [HT7.out]
    go_wp2_with fail
    refine (rabort_calls H6).mono ?_
    rintro e w8 ⟨rfl, H8⟩
    go_wp2_with fail
    refine (rfree_calls H8).mono ?_
    rintro e w9 ⟨rfl, rfl⟩
    rw [← HFR.out]
    go_wp2
    go_ret
    exact ⟨rfl, H8.below⟩
  · have hzg : ¬ gat l q = 0 := by rw [← hyg]; exact hz
    obtain ⟨v, rfl⟩ := Int.eq_ofNat_of_zero_le hyb.1
    have hv : v ≤ 255 := by omega
    have hbq : ((v : Int) == 0) = false := beq_eq_false_iff_ne.2 hz
    have hvw : IntKind.i64.wrap (v : Int) = v := by rw [IntKind.wrap_i64]; omega
    have H3 : Sep w w2 (fun _ => False) (refsA g (l.set q (v : Int)) l :: []) := by rw [set_same (by rw [gat_get hql, hyg])]; exact H2
    have HZG := hid hzg
    clear hz hyg hyb hzg H2
    go_wp2_with fail
    go_loopw [14] (fun i wr => ∃ j : Nat, j ≤ v ∧ i = .int .i64 j ∧ Sep w wr (fun _ => False) (refsA g (l.set q (j : Int)) l :: [])) (fun i _ => (intOf i).toNat)
    case atStart => exact ⟨v, Nat.le_refl _, rfl, H3⟩
    case round =>
      obtain ⟨j, hj, rfl, H4⟩ := hrel
      clear H3 hvw
      by_cases hj0 : j = 0
      · subst hj0
        obtain ⟨t1, t2, t3, t4, t5⟩ := def_end HOK.out hql HZG.out
        have hfh := def_held HOK.out hql HZG.out
        rw [← HFR.out] at t5
        replace H4 : Sep w wr (fun _ => False) (refsA g (l.set q 0) l :: []) := H4
        have hD : ∀ (W : World) (L : List Asr), Sep w W (fun _ => False) (refsA g (l.set q 0) l :: L) → Calls Try.prog 15 #[.pointer (some ⟨g, 0, none⟩), .int .i64 q] W fun e w' => e = .returned (.tuple #[.bool (deGone (l.set q 0) q), .int .i64 6]) ∧ Sep w w' (fun _ => False) (refsA g (l.set q 0) l :: L) := fun W L h => by
          have := rdec_calls (x := (q : Int)) h
          rwa [t1, t3] at this
        have hI : ∀ (W : World) (L : List Asr), Sep w W (fun _ => False) (refsA g (l.set q 0) l :: L) → Calls Try.prog 18 #[.pointer (some ⟨g, 0, none⟩), .int .i64 q] W fun e w' => e = .returned (.int .i64 6) ∧ Sep w w' (fun _ => False) (refsA g (l.set q 0) l :: L) := fun W L h => by
          have := rinc_calls (x := (q : Int)) h
          rwa [t2, t4] at this
        have HD := hid hD
        have HI := hid hI
        have HT5 := hid t5
        generalize deGone (l.set q 0) q = dg at *
        have hwf : IntKind.i64.wrap ((fr : Int) + 1) = (fr : Int) + 1 := by rw [IntKind.wrap_i64]; omega
        clear t1 t2 t3 t4 t5 hD hI hfh
        go_wp2_with fail
        refine (rcopy_calls H4).mono ?_
        rintro e w5 ⟨gx, rfl, H5⟩
        go_wp2_with fail
        refine (HD.out _ _ H5.up1).mono ?_
        rintro e w6 ⟨rfl, H6⟩
        go_wp2_with fail
        refine (HI.out _ _ H6).mono ?_
        rintro e w7 ⟨rfl, H7⟩
        go_wp2_with fail
        refine (rcommit_calls H7).mono ?_
        rintro e w8 ⟨rfl, H8⟩
        go_wp2_with fail
        refine (rfree_calls H8).mono ?_
        rintro e w9 ⟨rfl, rfl⟩
        rw [HT5.out]
        go_wp2_with fail
        refine (rabort_calls H8.up1).mono ?_
        rintro e w10 ⟨rfl, H10⟩
        go_wp2_with fail
        refine (rfree_calls H10).mono ?_
        rintro e w11 ⟨rfl, rfl⟩
        rw [← HFR.out]
        go_wp2_with fail
        refine (rcounts_calls H10).mono ?_
        rintro e w12 ⟨A12, c12, rfl, H12⟩
        go_wp2_with fail
        refine (equal_true H12 Rb.i0 (HRR.out _)).mono ?_
        rintro e w13 ⟨rfl, rfl⟩
        go_wp2
        go_ret
        exact ⟨rfl, H12.below⟩
      · obtain ⟨j, rfl⟩ : ∃ j', j = j' + 1 := ⟨j - 1, by omega⟩
        obtain ⟨t1, t2, t3⟩ := def_step (l := l) (j := j) hql
        have hfh := def_held HOK.out hql HZG.out (j : Int)
        have hD := rdec_calls (x := (q : Int)) H4
        rw [t1, t2, t3] at hD
        have HD := hid hD
        have HFH := hid hfh
        have hji : (0 : Int) < ((j + 1 : Nat) : Int) := by omega
        have hj1 : (((j + 1 : Nat) : Int) == 1) = decide (j = 0) := by
          by_cases h : j = 0
          · subst h; rfl
          · rw [decide_eq_false h]; exact beq_eq_false_iff_ne.2 (by omega)
        have hjw : ((j + 1 : Nat) : Int) - 1 = j := by omega
        generalize hJ : ((j + 1 : Nat) : Int) = J at *
        have HJ := hid hJ
        clear t1 t2 t3 hD hfh hJ
        go_wp2_with fail
        refine HD.out.mono ?_
        rintro e w5 ⟨rfl, H5⟩
        go_wp2_with fail
        refine (rfree_calls H5).mono ?_
        rintro e w6 ⟨rfl, rfl⟩
        rw [HFH.out, ← HFR.out]
        go_wp2
        go_roundw
        case rel => exact ⟨j, by omega, by go_num, H5⟩
        case measure => have := HJ.out; simp [intOf]; omega
end Go.Proofs.Ytepooiiaijbljaa
