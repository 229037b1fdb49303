/-
  The walk of RefsPlays.
-/
import Derived.Test.YtepooiiaijbljaaLaw07
import Derived.Test.YtepooiiaijbljaaActs
import Derived.Test.YtepooiiaijbljaaRefsH
import Derived.Deep.CutBlock
import Derived.Deep.DeepCutAuto
namespace Go.Proofs.Ytepooiiaijbljaa
open Go.RowKit
set_option linter.unusedVariables false
set_option linter.unusedSimpArgs false

theorem alNow_len (now was : List Int) : (alNow now was).length = now.length := by unfold alNow; split <;> simp
theorem inNow_len (now : List Int) (x : Int) : (inNow now x).length = now.length := by unfold inNow; split <;> simp
theorem deNow_len (now : List Int) (x : Int) : (deNow now x).length = now.length := by unfold deNow; split <;> simp
/-- what was kept: nothing, or a copy and the document's copy -/
def keptA (n : Nat) (p q : Option Addr) : Asr :=
  ex fun x : Option (Nat × Nat × List Int × List Int) => match x with
    | none => with_ (p = none ∧ q = none) emp
    | some y => with_ (p = some ⟨y.1, 0, none⟩ ∧ q = some ⟨y.2.1, 0, none⟩ ∧ y.2.2.1.length = n) (star (refsA y.1 y.2.2.1 y.2.2.2) (docA y.2.1 y.2.2.1 y.2.2.2))
section
variable {w0 w : World} {O : Nat → Prop} {L : List Asr}
theorem rnew_n {A : Option Addr} {n c : Nat} {l : List Int} (hn : l.length = n) (HS : Sep w0 w O L) (hr : Rb w0 O L 1 A n (kv .u8 l)) (hb : Byt l) (h1 : 1 ≤ n) (h2 : n ≤ 1024) :
    Calls Try.prog 7 #[.slice A n c] w fun e w' => ∃ g, e = .returned (.tuple #[.pointer (some ⟨g, 0, none⟩), .int .i64 0]) ∧ Sep w0 w' O (refsA g l l :: L) := by
  subst hn; exact rnew_calls HS hr hb h1 h2
theorem dnew_n {A : Option Addr} {n c : Nat} {l : List Int} (hn : l.length = n) (HS : Sep w0 w O L) (hr : Rb w0 O L 1 A n (kv .u8 l)) (hb : Byt l) (h1 : 1 ≤ n) (h2 : n ≤ 1024) :
    Calls Try.prog 22 #[.slice A n c] w fun e w' => ∃ g, e = .returned (.tuple #[.pointer (some ⟨g, 0, none⟩), .int .i64 0]) ∧ Sep w0 w' O (docA g l l :: L) := by
  subst hn; exact dnew_calls HS hr hb h1 h2
theorem Sep.kept0 {n : Nat} (h : Sep w0 w O L) : Sep w0 w O (keptA n none none :: L) := Sep.ex none (Sep.with_ ⟨rfl, rfl⟩ h.emp)
theorem Sep.kept1 {n g h : Nat} {now was : List Int} (hn : now.length = n) (H : Sep w0 w O (refsA g now was :: docA h now was :: L)) : Sep w0 w O (keptA n (some ⟨g, 0, none⟩) (some ⟨h, 0, none⟩) :: L) :=
  Sep.ex (some (g, h, now, was)) (Sep.with_ ⟨rfl, rfl, hn⟩ H.star)
theorem Sep.unkept {n : Nat} {p q : Option Addr} (h : Sep w0 w O (keptA n p q :: L)) : (p = none ∧ q = none ∧ Sep w0 w O L) ∨ ∃ (g h : Nat) (now was : List Int), p = some ⟨g, 0, none⟩ ∧ q = some ⟨h, 0, none⟩ ∧ now.length = n ∧ Sep w0 w O (refsA g now was :: docA h now was :: L) := by
  obtain ⟨x, h⟩ := h.unex
  cases x with
  | none =>
    obtain ⟨⟨h1, h2⟩, h⟩ := h.unwith
    exact .inl ⟨h1, h2, h.drop⟩
  | some y =>
    obtain ⟨⟨h1, h2, h3⟩, h⟩ := h.unwith
    exact .inr ⟨_, _, _, _, h1, h2, h3, h.unstar⟩
end

set_option maxHeartbeats 16000000 in
set_option maxRecDepth 100000 in
theorem refsPlays_walk (A0 : Option Addr) (n0 c0 : Nat) (A1 : Option Addr) (n1 c1 : Nat) (x0 : Sh.V (.slice (.int .u8) 1)) (x1 : Sh.V (.slice (.agg (.pair (.int .i64) (.pair (.int .i64) .unit))) 16)) (w : World) (s0 : Sees w.heap (.slice (.int .u8) 1) [.slice A0 n0 c0] x0) (s1 : Sees w.heap (.slice (.agg (.pair (.int .i64) (.pair (.int .i64) .unit))) 16) [.slice A1 n1 c1] x1) (y0 : Light (.slice (.int .u8) 1) x0) (y1 : Light (.slice (.agg (.pair (.int .i64) (.pair (.int .i64) .unit))) 16) x1) :
    Calls Try.prog 6 #[.slice A0 n0 c0, .slice A1 n1 c1] w fun e w' => e = .returned (.bool true) ∧ Below w.heap.size w w' := by
  obtain ⟨i0, hi0, hz0, hz1, hz2⟩ := info_parts info_u8'
  have hn1 : n1 ≤ 140737488351232 := by
    obtain ⟨A', c', hc, -⟩ := s1
    simp only [List.cons.injEq, and_true, Value.slice.injEq] at hc
    have := y1.1
    rw [← hc.2.1] at this
    omega
  obtain ⟨hc1, acts, hal, hab, hm⟩ := sees_acts s1
  have HRA := hid (fun L => Rb.came (L := L) hm)
  obtain ⟨hn, hr, hc, _, hw⟩ := sees_ints s0
  obtain ⟨l, rfl⟩ : ∃ l : List Int, l = x0 := ⟨_, rfl⟩
  have HB := hid (kv_byt hw)
  have HRR := hid (fun L => Rb.came (L := L) hr)
  have hll : l.length = n0 := by omega
  have hn0 : n0 ≤ 140737488351232 := by have h : l.length * 1 ≤ 140737488351232 := y0.1; omega
  have HLL := hid hll
  clear s0 s1 y0 y1 hw hr hn hc hm hab hal hll
  have HS := Sep.start w
  have HL := HS.lit #[] 5 1 0 rfl (Nat.zero_le _)
  have hrd := ((HRR.out (own 5 1 (some ⟨w.heap.size, 0, none⟩) 0 0 ((#[] : Array Value).toList) :: []))).read HL
  have hb1 : 0 + n0 ≤ maxLen := by simp only [maxLen]; omega
  have hb2 : (0 + n0) * 1 ≤ 140737488355328 := by omega
  go_enter Try.func6, Try.ntmps6
  go_upto_region 2 with (at_builtin; go_loud (refine wpList_append_sep rfl (.tmp 26) (.tmp 27) 22 rfl 5 i0 _ 1 1 Try.underlying22 hi0 hz0 hz1 hz2 rfl (by decide) rfl HL rfl hrd (kv_one .u8 l) hb1 hb2 (Nat.zero_add n0) (List.nil_append _) ?_); intro Aw cw w3 H3 hsz3)
  clear HL hrd hb1 hb2 HS
  by_cases hbad : n0 < 1 ∨ 1024 < n0
  · go_wp2_with fail
    refine (rnew_bad hbad).mono ?_
    rintro e w1 ⟨rfl, rfl⟩
    go_wp2_with fail
    refine (dnew_bad hbad).mono ?_
    rintro e w1 ⟨rfl, rfl⟩
    go_wp2_with fail
    refine (awake_calls H3).mono ?_
    rintro e w1 ⟨rfl, H4⟩
    go_wp2
    go_ret
    exact ⟨rfl, H4.below⟩
  have hlo : 1 ≤ n0 := by omega
  have hhi : n0 ≤ 1024 := by omega
  clear hbad
  go_wp2_with fail
  refine (rnew_n HLL.out H3 Rb.i0 HB.out hlo hhi).mono ?_
  rintro e w4 ⟨g, rfl, H4⟩
  have hrr := HRR.out (refsA g l l :: own 5 1 Aw n0 cw (kv .u8 l) :: [])
  go_wp2_with fail
  refine (dnew_n HLL.out H4 hrr HB.out hlo hhi).mono ?_
  rintro e w5 ⟨h, rfl, H5⟩
  go_wp2_with fail
  refine (awake_calls H5).mono ?_
  rintro e w6 ⟨rfl, H6⟩
  clear H3 H4 H5 hrr
  have H7 : Sep w w6 (fun _ => False) (own 5 1 Aw n0 cw (kv .u8 l) :: refsA g l l :: docA h l l :: []) := H6.sel 3 [2, 1, 0]
  clear H6
  go_wp2
  go_loopw [52] (fun i wr => ∃ (k : Nat) (xs : List Int), k ≤ n0 ∧ i = .int .i64 k ∧ Aside (xs.length = n0) ∧ Sep w wr (fun _ => False) (own 5 1 Aw n0 cw (kv .u8 xs) :: refsA g l l :: docA h l l :: [])) (fun i _ => n0 - (intOf i).toNat)
  case atStart => exact ⟨0, l, Nat.zero_le _, rfl, ⟨HLL.out⟩, H7⟩
  case round =>
    obtain ⟨k, xs, hk, rfl, hxl, H8⟩ := hrel
    clear H7
    by_cases hlt : k < n0
    · have hk1 : (k : Int) < n0 := by omega
      obtain ⟨b, rfl⟩ := H8.own_some (by omega)
      have hkx : k < xs.length := by rw [hxl.out]; exact hlt
      have cx := H8.kcell hkx hxl.out
      have zx := H8.own_frozen k
      generalize xs[k] = u at cx
      have H9 := H8.own_set k (.int .u8 (bits .xor .u8 u 255))
      rw [kv_set] at H9
      clear H8 hkx
      go_wp2
      go_roundw
      case rel => exact ⟨k + 1, xs.set k (bits .xor .u8 u 255), by omega, by go_num, ⟨by rw [List.length_set]; exact hxl.out⟩, H9⟩
      case measure => simp [intOf]; omega
    · obtain rfl : k = n0 := by omega
      have hk1 : ¬ (k : Int) < k := by omega
      have H9 := H8.drop
      clear H8
      go_upto_block 2 with (fail)
      go_cut [6, 8] (fun r d wx => ∃ (g h : Nat) (now was : List Int), r = .pointer (some ⟨g, 0, none⟩) ∧ d = .pointer (some ⟨h, 0, none⟩) ∧ Sep w wx (fun _ => False) (refsA g now was :: docA h now was :: []))
      case first =>
        go_wp2_with fail
        go_loopw [6, 8, 11, 12, 13, 64] (fun r d la kp th i wr => ∃ (j g h : Nat) (now was : List Int) (x : Int) (p q : Option Addr), j ≤ n1 ∧ r = .pointer (some ⟨g, 0, none⟩) ∧ d = .pointer (some ⟨h, 0, none⟩) ∧ la = .int .i64 x ∧ kp = .pointer p ∧ th = .pointer q ∧ i = .int .i64 j ∧ Aside (now.length = k) ∧ Sep w wr (fun _ => False) (refsA g now was :: docA h now was :: keptA k p q :: [])) (fun _ _ _ _ _ i _ => n1 - (intOf i).toNat)
        case atStart => exact ⟨0, g, h, l, l, 0, none, none, Nat.zero_le _, rfl, rfl, rfl, rfl, rfl, rfl, ⟨HLL.out⟩, H9.kept0.sel 3 [1, 2, 0]⟩
        case round =>
          obtain ⟨j, g, h, now, was, x, p, q, hj, rfl, rfl, rfl, rfl, rfl, rfl, hnl, H4⟩ := hrel
          clear H9
          by_cases hlt : j < n1
          · obtain ⟨ad, ⟨wh, at_⟩, rfl, hp, p0, p1⟩ := (HRA.out _).actAt H4 hlt
            have hj1 : (j : Int) < n1 := by omega
            have H5 := H4.alloc #[.int .i64 wh, .int .i64 at_] 30
            obtain ⟨ga, hga⟩ : ∃ ga, ga = wr.heap.size := ⟨_, rfl⟩
            have HGA := hid hga
            rw [← hga] at H5
            clear hga hp
            by_cases h300 : j = 300
            · have ht : ((j : Int) == 300) = true := by simp; omega
              clear h300
              go_wp2
              go_meet
              case rel => exact ⟨g, h, now, was, rfl, rfl, H5.sel 4 [1, 2]⟩
            · have ht : ((j : Int) == 300) = false := by simp; omega
              clear h300
              go_upto_block 4 with (fail)
              rw [← HGA.out]
              go_cut [6, 8, 11, 12, 13] (fun r d la kp th wx => ∃ (g h : Nat) (now was : List Int) (x : Int) (p q : Option Addr), r = .pointer (some ⟨g, 0, none⟩) ∧ d = .pointer (some ⟨h, 0, none⟩) ∧ la = .int .i64 x ∧ kp = .pointer p ∧ th = .pointer q ∧ Aside (now.length = k) ∧ Sep w wx (fun _ => False) (refsA g now was :: docA h now was :: keptA k p q :: []))
              case first =>
                generalize hW : wr.alloc (.cells #[.int .i64 wh, .int .i64 at_] 30) = w5 at *
                have H6 : Sep w w5 (fun _ => False) (refsA g now was :: docA h now was :: keptA k p q :: blk ga 30 #[.int .i64 wh, .int .i64 at_] :: []) := H5.sel 4 [1, 2, 3, 0]
                obtain ⟨hok, -⟩ := H6.unrefs
                have HOK := hid hok
                clear hW H5 H4 p0 p1 ht hj1 hok
                have q0 := H6.up3.blkAt 0 rfl
                rcases (show wh = 0 ∨ wh = 1 ∨ wh = 2 ∨ wh = 6 ∨ wh = 3 ∨ wh = 4 ∨ wh = 5 ∨ wh = 7 ∨ wh = 8 ∨ (¬ wh = 0 ∧ ¬ wh = 1 ∧ ¬ wh = 2 ∧ ¬ wh = 6 ∧ ¬ wh = 3 ∧ ¬ wh = 4 ∧ ¬ wh = 5 ∧ ¬ wh = 7 ∧ ¬ wh = 8) by omega) with rfl | rfl | rfl | rfl | rfl | rfl | rfl | rfl | rfl | ⟨m0, m1, m2, m6, m3, m4, m5, m7, m8⟩
                · go_wp2_with fail
                  refine (ralloc_calls H6).mono ?_
                  rintro e w6 ⟨rfl, H7⟩
                  go_wp2_with fail
                  refine (dalloc_calls H7.up1).mono ?_
                  rintro e w7 ⟨rfl, H8⟩
                  have hl := hid ((alNow_len now was).trans hnl.out)
                  generalize alNow now was = js at *
                  generalize takeAt (isOf now was) = ta at *
                  generalize takeErr (isOf now was) = te at *
                  clear q0
                  go_wp2
                  go_meet
                  case rel => exact ⟨g, h, js, was, ta, p, q, rfl, rfl, rfl, rfl, rfl, hl, H8.sel 4 [1, 0, 2]⟩
                · have hl := hid ((inNow_len now at_).trans hnl.out)
                  have q1 := H6.drew.up3.blkAt 1 rfl
                  go_upto_region 28 with (fail)
                  go_region_law (first
                    | (go_simp; go_at_call 18; refine (rinc_calls (x := at_) H6.drew).mono ?_; rintro e w6 ⟨rfl, H7⟩; have q2 := H7.up3.blkAt 1 rfl)
                    | (go_simp; go_at_call 24; refine (dinc_calls (x := at_) H7.up1).mono ?_; rintro e w7 ⟨rfl, H8⟩))
                  all_goals
                    generalize inNow now at_ = js at *
                    generalize inErr now at_ = ie at *
                    go_wp2
                    go_meet
                    case rel => exact ⟨g, h, js, was, x, p, q, rfl, rfl, rfl, rfl, rfl, hl, H8.sel 4 [1, 0, 2]⟩
                · have hl := hid ((deNow_len now at_).trans hnl.out)
                  have q1 := H6.up3.blkAt 1 rfl
                  go_wp2_with fail
                  refine (rdec_calls (x := at_) H6).mono ?_
                  rintro e w6 ⟨rfl, H7⟩
                  go_wp2_with fail
                  refine (ddec_calls (x := at_) H7.up1).mono ?_
                  rintro e w7 ⟨rfl, H8⟩
                  generalize deNow now at_ = js at *
                  generalize deGone now at_ = dg at *
                  generalize whyE now at_ = we at *
                  clear q0 q1
                  go_wp2
                  go_meet
                  case rel => exact ⟨g, h, js, was, x, p, q, rfl, rfl, rfl, rfl, rfl, hl, H8.sel 4 [1, 0, 2]⟩
                · have hl := hid ((deNow_len now x).trans hnl.out)
                  have q1 := H6.up3.blkAt 1 rfl
                  go_wp2_with fail
                  refine (rdec_calls (x := x) H6).mono ?_
                  rintro e w6 ⟨rfl, H7⟩
                  go_wp2_with fail
                  refine (ddec_calls (x := x) H7.up1).mono ?_
                  rintro e w7 ⟨rfl, H8⟩
                  generalize deNow now x = js at *
                  generalize deGone now x = dg at *
                  generalize whyE now x = we at *
                  clear q0 q1
                  go_wp2
                  go_meet
                  case rel => exact ⟨g, h, js, was, x, p, q, rfl, rfl, rfl, rfl, rfl, hl, H8.sel 4 [1, 0, 2]⟩
                · go_wp2_with fail
                  refine (rcommit_calls H6).mono ?_
                  rintro e w6 ⟨rfl, H7⟩
                  go_wp2_with fail
                  refine (dcommit_calls H7.up1).mono ?_
                  rintro e w7 ⟨rfl, H8⟩
                  clear q0
                  go_wp2
                  go_meet
                  case rel => exact ⟨g, h, now, now, x, p, q, rfl, rfl, rfl, rfl, rfl, hnl, H8.sel 4 [1, 0, 2]⟩
                · go_wp2_with fail
                  refine (rabort_calls H6).mono ?_
                  rintro e w6 ⟨rfl, H7⟩
                  go_wp2_with fail
                  refine (dabort_calls H7.up1).mono ?_
                  rintro e w7 ⟨rfl, H8⟩
                  clear q0
                  go_wp2
                  go_meet
                  case rel => exact ⟨g, h, was, was, x, p, q, rfl, rfl, rfl, rfl, rfl, ⟨HOK.out.len.trans hnl.out⟩, H8.sel 4 [1, 0, 2]⟩
                · go_wp2_with fail
                  refine (rcopy_calls H6).mono ?_
                  rintro e w6 ⟨g2, rfl, H7⟩
                  go_wp2_with fail
                  refine (ralloc_calls H7.up1).mono ?_
                  rintro e w7 ⟨rfl, H8⟩
                  go_wp2_with fail
                  refine (rdec_calls (x := 0) H8).mono ?_
                  rintro e w8 ⟨rfl, H9⟩
                  go_wp2_with fail
                  refine (rcommit_calls H9).mono ?_
                  rintro e w9 ⟨rfl, H10⟩
                  clear q0
                  go_wp2
                  go_meet
                  case rel => exact ⟨g2, h, now, was, x, p, q, rfl, rfl, rfl, rfl, rfl, hnl, H10.sel 5 [1, 2, 3]⟩
                · go_wp2_with fail
                  refine (rcopy_calls H6).mono ?_
                  rintro e w6 ⟨g2, rfl, H7⟩
                  go_wp2_with fail
                  refine (dcopy_calls H7.up2).mono ?_
                  rintro e w7 ⟨h2, rfl, H8⟩
                  clear q0
                  go_wp2
                  go_meet
                  case rel => exact ⟨g, h, now, was, x, some ⟨g2, 0, none⟩, some ⟨h2, 0, none⟩, rfl, rfl, rfl, rfl, rfl, hnl, (Sep.kept1 hnl.out (H8.sel 6 [2, 0, 3, 1])).sel 3 [1, 2, 0]⟩
                · rcases H6.up2.unkept with ⟨rfl, rfl, H7⟩ | ⟨gk, hk2, nk, wk, rfl, rfl, hkl, H7⟩
                  · go_wp2
                    go_meet
                    case rel => exact ⟨g, h, now, was, x, none, none, rfl, rfl, rfl, rfl, rfl, hnl, H7.kept0.sel 4 [1, 2, 0]⟩
                  · have HKL := hid hkl
                    have hb := rbecome_calls (H7.sel 5 [2, 0, 1, 3, 4]) (hkl.trans hnl.out.symm)
                    have HBE := hid hb
                    clear hb hkl
                    go_wp2_with fail
                    refine HBE.out.mono ?_
                    rintro e w6 ⟨rfl, H8⟩
                    go_wp2_with fail
                    refine (dcopy_calls H8.up2).mono ?_
                    rintro e w7 ⟨h2, rfl, H9⟩
                    have H10 : Sep w w7 (fun _ => False) (refsA gk nk wk :: refsA g nk wk :: docA h2 nk wk :: docA hk2 nk wk :: docA h now was :: blk ga 30 #[.int .i64 8, .int .i64 at_] :: []) := H9.sel 6 [3, 2, 0, 1, 4, 5]
                    clear H8 H9 HBE H7 H6 q0
                    go_wp2_with fail
                    refine (ralloc_calls H10).mono ?_
                    rintro e w8 ⟨rfl, H11⟩
                    go_wp2_with fail
                    refine (rdec_calls (x := 0) H11).mono ?_
                    rintro e w9 ⟨rfl, H12⟩
                    have hb := rbecome_calls H12 (by rw [deNow_len, alNow_len])
                    have HBE := hid hb
                    clear hb H10 H11
                    go_wp2_with fail
                    refine HBE.out.mono ?_
                    rintro e w10 ⟨rfl, H13⟩
                    clear HBE
                    go_wp2
                    go_meet
                    case rel => exact ⟨g, h2, nk, wk, x, some ⟨gk, 0, none⟩, some ⟨hk2, 0, none⟩, rfl, rfl, rfl, rfl, rfl, HKL, (Sep.kept1 HKL.out (H13.sel 6 [0, 3, 1, 2])).sel 3 [1, 2, 0]⟩
                · have b0 : (wh == 0) = false := beq_eq_false_iff_ne.2 m0
                  have b1 : (wh == 1) = false := beq_eq_false_iff_ne.2 m1
                  have b2 : (wh == 2) = false := beq_eq_false_iff_ne.2 m2
                  have b3 : (wh == 3) = false := beq_eq_false_iff_ne.2 m3
                  have b4 : (wh == 4) = false := beq_eq_false_iff_ne.2 m4
                  have b5 : (wh == 5) = false := beq_eq_false_iff_ne.2 m5
                  have b6 : (wh == 6) = false := beq_eq_false_iff_ne.2 m6
                  have b7 : (wh == 7) = false := beq_eq_false_iff_ne.2 m7
                  have b8 : (wh == 8) = false := beq_eq_false_iff_ne.2 m8
                  clear m0 m1 m2 m3 m4 m5 m6 m7 m8
                  go_wp2
                  go_meet
                  case rel => exact ⟨g, h, now, was, x, p, q, rfl, rfl, rfl, rfl, rfl, hnl, H6.sel 4 [0, 1, 2]⟩
              case rest =>
                obtain ⟨g, h, now, was, x, p, q, rfl, rfl, rfl, rfl, rfl, hnl, H6⟩ := hcut
                clear H5 H4 p0 p1
                go_wp2_with fail
                refine (alike_calls H6).mono ?_
                rintro e w7 ⟨rfl, H7⟩
                go_wp2
                go_roundw
                case rel => exact ⟨j + 1, g, h, now, was, x, p, q, by omega, rfl, rfl, rfl, rfl, rfl, by go_num, hnl, H7⟩
                case measure => simp [intOf]; omega
          · obtain rfl : j = n1 := by omega
            have hj1 : ¬ (j : Int) < j := by omega
            go_wp2
            go_meet
            case rel => exact ⟨g, h, now, was, rfl, rfl, H4.sel 3 [0, 1]⟩
      case rest =>
        obtain ⟨g, h, now, was, rfl, rfl, H6⟩ := hcut
        clear H9
        go_wp2_with fail
        refine (alike_calls H6).mono ?_
        rintro e w7 ⟨rfl, H7⟩
        go_wp2
        go_ret
        exact ⟨rfl, H7.below⟩
end Go.Proofs.Ytepooiiaijbljaa
