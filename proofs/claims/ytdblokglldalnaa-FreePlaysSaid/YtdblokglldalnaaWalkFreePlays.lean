/-
  The walk of FreePlays.
-/
import Derived.Test.YtdblokglldalnaaLaw06
import Derived.Deep.CutBlock
import Derived.Deep.DeepCutAuto
namespace Go.Proofs.Ytdblokglldalnaa
open Go.RowKit
set_option linter.unusedVariables false
set_option linter.unusedSimpArgs false

set_option maxHeartbeats 8000000 in
set_option maxRecDepth 100000 in
theorem freePlays_walk (a0 : Int) (A1 : Option Addr) (n1 c1 : Nat) (x0 : Sh.V (.int .i64)) (x1 : Sh.V (.slice (.agg (.pair (.int .i64) (.pair (.int .i64) .unit))) 16)) (w : World) (s0 : Sees w.heap (.int .i64) [.int .i64 a0] x0) (s1 : Sees w.heap (.slice (.agg (.pair (.int .i64) (.pair (.int .i64) .unit))) 16) [.slice A1 n1 c1] x1) (y0 : Light (.int .i64) x0) (y1 : Light (.slice (.agg (.pair (.int .i64) (.pair (.int .i64) .unit))) 16) x1) :
    Calls Try.prog 5 #[.int .i64 a0, .slice A1 n1 c1] w fun e w' => e = .returned (.bool true) ∧ Below w.heap.size w w' := by
  have hn1 : n1 ≤ 140737488351232 := by
    obtain ⟨A', c', hc, -⟩ := s1
    simp only [List.cons.injEq, and_true, Value.slice.injEq] at hc
    have := y1.1
    rw [← hc.2.1] at this
    omega
  obtain ⟨hc1, l, hl, hlb, hm⟩ := sees_acts s1
  have HR := hid (fun L => Rb.came (L := L) hm)
  have HLB := hid hlb
  clear s0 s1 y0 y1 hm hlb
  have HS := Sep.start w
  by_cases hbad : a0 < 0 ∨ 1024 < a0
  · go_enter Try.func5, Try.ntmps5
    go_wp2_with fail
    refine (new_bad hbad).mono ?_
    rintro e w1 ⟨rfl, rfl⟩
    go_wp2_with fail
    refine (rnew_bad hbad).mono ?_
    rintro e w1 ⟨rfl, rfl⟩
    go_wp2_with fail
    refine (awake_calls HS).mono ?_
    rintro e w1 ⟨rfl, H1⟩
    go_wp2
    go_ret
    exact ⟨rfl, H1.below⟩
  obtain ⟨m, rfl⟩ := Int.eq_ofNat_of_zero_le (show 0 ≤ a0 by omega)
  have hm : m ≤ 1024 := by omega
  have hm1 : IntKind.i64.wrap ((m : Int) - 1) = (m : Int) - 1 := by rw [IntKind.wrap_i64]; omega
  clear hbad
  go_enter Try.func5, Try.ntmps5
  go_wp2_with fail
  refine (newf_calls HS hm).mono ?_
  rintro e w1 ⟨gs, rfl, H1⟩
  go_wp2_with fail
  refine (rnew_calls H1 hm).mono ?_
  rintro e w2 ⟨gr, rfl, H2⟩
  go_wp2_with fail
  refine (awake_calls H2).mono ?_
  rintro e w3 ⟨rfl, H3⟩
  clear HS H1 H2
  go_upto_block 0 with (fail)
  go_cut [5] (fun s wx => ∃ (gs : Nat) (is : List Bool), s = .pointer (some ⟨gs, 0, none⟩) ∧ is.length = m ∧ Sep w wx (fun _ => False) (rspace gr is :: space gs is :: []))
  case first =>
    go_wp2_with fail
    go_loopw [5, 9, 42] (fun s la i wr => ∃ (k gs : Nat) (is : List Bool) (x : Int), k ≤ n1 ∧ s = .pointer (some ⟨gs, 0, none⟩) ∧ la = .int .i64 x ∧ i = .int .i64 k ∧ is.length = m ∧ Sep w wr (fun _ => False) (rspace gr is :: space gs is :: [])) (fun _ _ i _ => n1 - (intOf i).toNat)
    case atStart => exact ⟨0, gs, List.replicate m true, 0, Nat.zero_le _, rfl, rfl, rfl, by simp, H3⟩
    case round =>
      obtain ⟨k, gs, is, x, hk, rfl, rfl, rfl, him, H4⟩ := hrel
      have hile : is.length ≤ 1024 := by omega
      have HIM := hid him
      clear H3 him
      by_cases hlt : k < n1
      · obtain ⟨ad, ⟨wh, at_⟩, rfl, hp, p0, p1⟩ := (HR.out _).actAt H4 hlt
        have hk1 : (k : Int) < n1 := by omega
        have H5 := H4.alloc #[.int .i64 wh, .int .i64 at_] 40
        obtain ⟨ga, hga⟩ : ∃ ga, ga = wr.heap.size := ⟨_, rfl⟩
        have HGA := hid hga
        rw [← hga] at H5
        clear hga hp
        by_cases h400 : k = 400
        · have ht : ((k : Int) == 400) = true := by simp; omega
          clear h400
          go_wp2
          go_meet
          case rel => exact ⟨gs, is, rfl, HIM.out, H5.drop⟩
        · have ht : ((k : Int) == 400) = false := by simp; omega
          go_upto_block 2 with (fail)
          rw [← HGA.out]
          go_cut [5, 9] (fun s la wx => ∃ (gs : Nat) (is : List Bool) (x : Int), s = .pointer (some ⟨gs, 0, none⟩) ∧ la = .int .i64 x ∧ is.length = m ∧ Sep w wx (fun _ => False) (rspace gr is :: space gs is :: []))
          case first =>
            generalize hW : wr.alloc (.cells #[.int .i64 wh, .int .i64 at_] 40) = w5 at *
            have H6 : Sep w w5 (fun _ => False) (space gs is :: rspace gr is :: blk ga 40 #[.int .i64 wh, .int .i64 at_] :: []) := H5.sel 3 [2, 1, 0]
            clear hW H5 H4 p0 p1 ht hk1
            have q1 := H6.drew.up2.blkAt 1 rfl
            rcases (show wh = 0 ∨ wh = 1 ∨ wh = 2 ∨ wh = 3 ∨ wh = 4 ∨ (¬ wh = 0 ∧ ¬ wh = 1 ∧ ¬ wh = 2 ∧ ¬ wh = 3 ∧ ¬ wh = 4) by omega) with rfl | rfl | rfl | rfl | rfl | ⟨n0, n1', n2, n3, n4⟩
            · go_wp2_with fail
              refine (take_calls H6).mono ?_
              rintro e w6 ⟨rfl, H7⟩
              go_wp2_with fail
              refine (rtake_calls H7.up1 hile).mono ?_
              rintro e w7 ⟨rfl, H8⟩
              have hl : (takeIs is).length = m := by rw [takeIs_len]; exact HIM.out
              generalize takeIs is = js at *
              generalize takeAt is = ta at *
              generalize takeErr is = te at *
              go_wp2
              go_meet
              case rel => exact ⟨gs, js, ta, rfl, rfl, hl, H8.sel 3 [0, 1]⟩
            · have hl : (clIs is at_).length = m := by rw [clIs_len]; exact HIM.out
              go_upto_region 20 with (fail)
              go_region_law (first
                | (go_simp; go_at_call 10; refine (claim_calls (x := at_) H6.drew).mono ?_; rintro e w6 ⟨rfl, H7⟩; have q2 := H7.up2.blkAt 1 rfl)
                | (go_simp; go_at_call 19; refine (rclaim_calls (x := at_) H7.up1 hile).mono ?_; rintro e w7 ⟨rfl, H8⟩))
              all_goals
                generalize clIs is at_ = js at *
                generalize clErr is at_ = ce at *
                go_wp2
                go_meet
                case rel => exact ⟨gs, js, x, rfl, rfl, hl, H8.sel 3 [0, 1]⟩
            · have hl : (gvIs is at_).length = m := by rw [gvIs_len]; exact HIM.out
              go_upto_region 23 with (fail)
              go_region_law (first
                | (go_simp; go_at_call 13; refine (give_calls (x := at_) H6.drew).mono ?_; rintro e w6 ⟨rfl, H7⟩; have q2 := H7.up2.blkAt 1 rfl)
                | (go_simp; go_at_call 20; refine (rgive_calls (x := at_) H7.up1 hile).mono ?_; rintro e w7 ⟨rfl, H8⟩))
              all_goals
                generalize gvIs is at_ = js at *
                generalize gvErr is at_ = ce at *
                go_wp2
                go_meet
                case rel => exact ⟨gs, js, x, rfl, rfl, hl, H8.sel 3 [0, 1]⟩
            · go_wp2_with fail
              refine (copy_calls H6).mono ?_
              rintro e w6 ⟨g2, rfl, H7⟩
              go_wp2_with fail
              refine (take_calls H7.up1).mono ?_
              rintro e w7 ⟨rfl, H8⟩
              go_wp2_with fail
              refine (give_calls (x := 0) H8).mono ?_
              rintro e w8 ⟨rfl, H9⟩
              go_wp2_with fail
              refine (claim_calls (x := (m : Int) - 1) H9).mono ?_
              rintro e w9 ⟨rfl, H10⟩
              go_wp2
              go_meet
              case rel => exact ⟨g2, is, x, rfl, rfl, HIM.out, H10.sel 4 [2, 1]⟩
            · have hl : (gvIs is x).length = m := by rw [gvIs_len]; exact HIM.out
              go_wp2_with fail
              refine (give_calls (x := x) H6).mono ?_
              rintro e w6 ⟨rfl, H7⟩
              go_wp2_with fail
              refine (rgive_calls (x := x) H7.up1 hile).mono ?_
              rintro e w7 ⟨rfl, H8⟩
              generalize gvIs is x = js at *
              generalize gvErr is x = ce at *
              go_wp2
              go_meet
              case rel => exact ⟨gs, js, x, rfl, rfl, hl, H8.sel 3 [0, 1]⟩
            · go_wp2
              go_meet
              case rel => exact ⟨gs, is, x, rfl, rfl, HIM.out, H6.sel 3 [1, 0]⟩
          case rest =>
            obtain ⟨gs2, js, x2, rfl, rfl, hjm, H6⟩ := hcut
            have hjle : js.length ≤ 1024 := by omega
            have hpc := places_count js
            have HJM := hid hjm
            clear H5 H4 p0 p1 hjm
            go_wp2_with fail
            refine (free_calls H6.up1).mono ?_
            rintro e w7 ⟨rfl, rfl⟩
            go_wp2_with fail
            refine (rlist_calls H6 hjle).mono ?_
            rintro e w8 ⟨Q, qc, rfl, H8⟩
            generalize (places js).length = pl at *
            generalize js.count true = cn at *
            go_wp2
            go_roundw
            case rel => exact ⟨k + 1, gs2, js, x2, by omega, rfl, rfl, by go_num, HJM.out, H8.drop⟩
            case measure => simp [intOf]; omega
      · obtain rfl : k = n1 := by omega
        have hk1 : ¬ (k : Int) < k := by omega
        go_wp2
        go_meet
        case rel => exact ⟨gs, is, rfl, HIM.out, H4⟩
  case rest =>
    obtain ⟨gs, is, rfl, him, H4⟩ := hcut
    have hile : is.length ≤ 1024 := by omega
    have hpc := places_count is
    have hct : is.count true ≤ is.length := List.count_le_length
    have hpl : (places is).length ≤ 1024 := by omega
    clear H3 him hpc hct
    go_wp2_with fail
    refine (list_calls H4.up1).mono ?_
    rintro e w5 ⟨A5, c5, rfl, H5⟩
    go_wp2_with fail
    refine (rlist_calls H5.up2 hile).mono ?_
    rintro e w6 ⟨A6, c6, rfl, H6⟩
    go_wp2_with fail
    refine (same_true H6 Rb.i2 Rb.i0 (by omega)).mono ?_
    rintro e w7 ⟨rfl, H7⟩
    have H8 := H7.sel 4 [2, 1, 3]
    replace H8 : Sep w w7 (fun _ => False) (own 3 1 A5 (places is).length c5 (kv .i64 (places is)) :: rspace gr is :: space gs is :: []) := H8
    have HPL := hid hpl
    have HPP := hid (rfl : (places is).length = (places is).length)
    obtain ⟨pn, hpn⟩ : ∃ pn, pn = (places is).length := ⟨_, rfl⟩
    rw [← hpn] at H8 hpl ⊢
    have HPN := hid hpn
    clear H4 H5 H6 H7 hpn
    go_wp2_with fail
    go_loopw [136] (fun i wr => ∃ (k : Nat) (ys : List Int), k ≤ pn ∧ i = .int .i64 k ∧ ys.length = pn ∧ Sep w wr (fun _ => False) (own 3 1 A5 pn c5 (kv .i64 ys) :: rspace gr is :: space gs is :: [])) (fun i _ => pn - (intOf i).toNat)
    case atStart => exact ⟨0, places is, Nat.zero_le _, rfl, HPN.out.symm, H8⟩
    case round =>
      obtain ⟨k, ys, hk, rfl, hys, H9⟩ := hrel
      clear H8
      by_cases hlt : k < pn
      · have hk1 : (k : Int) < pn := by omega
        obtain ⟨b, rfl⟩ := H9.own_some (by omega)
        have zk := H9.own_frozen k
        have ck := H9.kcell (j := k) (by omega) hys
        have HW := H9.own_set k (.int .i64 (-1))
        rw [kv_set] at HW
        go_wp2
        go_roundw
        case rel => exact ⟨k + 1, ys.set k (-1), by omega, by go_num, by rw [List.length_set]; exact hys, HW⟩
        case measure => simp [intOf]; omega
      · obtain rfl : k = pn := by omega
        have hk1 : ¬ (k : Int) < k := by omega
        go_wp2_with fail
        refine (list_calls H9.up2).mono ?_
        rintro e w10 ⟨A10, c10, rfl, H10⟩
        go_wp2_with fail
        refine (rlist_calls H10.up3 hile).mono ?_
        rintro e w11 ⟨A11, c11, rfl, H11⟩
        go_wp2_with fail
        refine (same_true H11 Rb.i2 Rb.i0 (by have := HPL.out; omega)).mono ?_
        rintro e w12 ⟨rfl, H12⟩
        go_wp2
        go_ret
        exact ⟨rfl, H12.below⟩
end Go.Proofs.Ytdblokglldalnaa
